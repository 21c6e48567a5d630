/- Walks and plain facts behind one law of package matrix: part 2. No conditions. -/
import Derived.Test.YtpkghpljgjlmjaaN1
import Derived.Deep.RegionHeld3
import Derived.Deep.RegionWith
import Derived.StillTactics
import Derived.Test.YtpkghpljgjlmjaaProg
import Derived.Below
import Derived.Deep.Draws
import Derived.Deep.AppendLies
import Derived.Maps.AppendAt
import Derived.OwnWalk
import Derived.Laws.BytesArg
import Derived.Laws.MakeOwn
import Derived.Laws.OwnMore
import Derived.Deep.OwnRows
import Derived.Tactics
import Derived.Lib.ConvBytes
import Derived.Laws.Slices
import Derived.WalkKit
import Derived.KernelRfl
import Derived.RowKit3
import Derived.Deep.LoopGhost
import Derived.Deep.QuietTactic
import Derived.BigQuiet
import Derived.WideLaws
import Derived.Deep.DeepCutAuto
import Derived.Deep.CutBlock
import Derived.Laws.Rows
import Derived.Lib.AppendStr
import Derived.ArgAppend
import Derived.Laws.IdiomCopy
import Derived.OrdersHeld
import Derived.Laws.BitsLemmas
import Derived.RowKit
import Derived.Test.YtpkghpljgjlmjaaWWords
import Derived.Test.YtpkghpljgjlmjaaWLast
import Derived.Test.YtpkghpljgjlmjaaWTab
import Derived.Test.YtpkghpljgjlmjaaWQPut
import Derived.Test.YtpkghpljgjlmjaaWApart
import Derived.Test.YtpkghpljgjlmjaaWArr
import Derived.Test.YtpkghpljgjlmjaaWZeros
import Derived.Test.YtpkghpljgjlmjaaWFoot
import Derived.Test.YtpkghpljgjlmjaaWKept
import Derived.Test.YtpkghpljgjlmjaaWShare
import Derived.Test.YtpkghpljgjlmjaaWN
import Derived.Test.YtpkghpljgjlmjaaWRepsOne
import Derived.Test.YtpkghpljgjlmjaaWGuard
import Derived.Test.YtpkghpljgjlmjaaWNEv
import Derived.Test.YtpkghpljgjlmjaaWMore
import Derived.Outline
-- Lines of this claim, written by the session's own program kprint.py (it runs print.py).
namespace Go.Proofs.Ytpkghpljgjlmjaa.K
open Go.RowKit Go.Proofs.YtpkghpljgjlmjaaW.PrintWords Go.Proofs.YtpkghpljgjlmjaaW.PrintLast Go.Proofs.YtpkghpljgjlmjaaW.PrintMore
attribute [local go_sem] max2_int min2_int max_two min_two max_three min_three max_four min_four   -- for this text's walks alone
set_option linter.unusedVariables false
set_option linter.unusedSimpArgs false

/-! ### gf256_MulAdd: function 66 -/
def gf256_MulAdd.l0 : Nat → List Int → List Int → Int → Int → Option (List Int × Int)
  | 0, _, _, _, _ => none
  | k + 1, x8, x19, x20, x21 => if x21 < x20 then (if 0 ≤ x21 then (if x21 < (x19.length : Int) then (if x21 < (x8.length : Int) then ((gf256_Add.f (rd x8 x21) (rd x19 x21)).bind fun t106 => (gf256_MulAdd.l0 k (x8.set (x21 : Int).toNat t106) x19 x20 (wrap64 (x21 + 1)))) else (none)) else (none)) else (none)) else (some (x8, 0))
def gf256_MulAdd.f (k : Nat) (l0 : List Int) (l1 : List Int) (a2 : Int) : Option (List Int × Int) := if (l0.length : Int) = (l1.length : Int) then ((gf256_Scale.f l1 a2).bind fun t101 => (gf256_MulAdd.l0 k t101 l0 (l0.length : Int) 0)) else (some (([] : List Int), 1))
theorem gf256_MulAdd.mono_l : ∀ k, (∀ y0 y1 y2 y3, LeO (gf256_MulAdd.l0 k y0 y1 y2 y3) (gf256_MulAdd.l0 (k + 1) y0 y1 y2 y3))
  | 0 => fun _ _ _ _ r h => by simp [gf256_MulAdd.l0] at h
  | k + 1 => by
    have ih0 := gf256_MulAdd.mono_l k
    · intro y0 y1 y2 y3
      unfold gf256_MulAdd.l0
      repeat' first
      | (with_reducible exact ih0 _ _ _ _)
      | (with_reducible exact LeO.refl _)
      | (with_reducible exact LeO.none _)
      | (with_reducible refine LeO.ite ?_ ?_)
      | (with_reducible refine LeO.bind ?_ (fun _ => ?_))
      | exact ih0 _ _ _ _
      | exact LeO.none _
      | refine LeO.ite ?_ ?_
      | refine LeO.bind ?_ (fun _ => ?_)
theorem gf256_MulAdd.mono : ∀ a0 a1 a2 k, LeO (gf256_MulAdd.f k a0 a1 a2) (gf256_MulAdd.f (k + 1) a0 a1 a2) := by
  intro a0 a1 a2 k
  have ih0 := gf256_MulAdd.mono_l k
  unfold gf256_MulAdd.f
  repeat' first
      | (with_reducible exact ih0 _ _ _ _)
      | (with_reducible exact LeO.refl _)
      | (with_reducible exact LeO.none _)
      | (with_reducible refine LeO.ite ?_ ?_)
      | (with_reducible refine LeO.bind ?_ (fun _ => ?_))
      | exact ih0 _ _ _ _
      | exact LeO.none _
      | refine LeO.ite ?_ ?_
      | refine LeO.bind ?_ (fun _ => ?_)
set_option maxHeartbeats 8000000 in
set_option maxRecDepth 100000 in
theorem gf256_MulAdd.calls (k : Nat) (A0 : Option Addr) (c0 : Nat) (l0 : List Int) (A1 : Option Addr) (c1 : Nat) (l1 : List Int) (a2 : Int) (r1 : List Int) (r2 : Int) (w : World) (hr0 : Kd.C (Kd.int .u8) w A0 l0.length l0) (hc0 : l0.length ≤ c0) (hr1 : Kd.C (Kd.int .u8) w A1 l1.length l1) (hc1 : l1.length ≤ c1) (h : gf256_MulAdd.f k l0 l1 a2 = some (r1, r2)) :
    Calls Try.prog 66 #[.slice A0 l0.length c0, .slice A1 l1.length c1, .int .u8 a2] w fun e w' => ∃ v0_ : Value, e = .returned (.tuple #[v0_, .int .i64 r2]) ∧ Kd.R (Kd.int .u8) 5 w' w.heap.size (fun _ => True) v0_ r1 ∧ Below w.heap.size w w' := by
  have HR0 := Aside0.mk hr0
  have HC0 := Aside0.mk hc0
  clear hr0 hc0
  have HR1 := Aside0.mk hr1
  have HC1 := Aside0.mk hc1
  clear hr1 hc1
  have HB := Aside0.mk (Below.refl w.heap.size w)
  have H : (if (l0.length : Int) = (l1.length : Int) then ((gf256_Scale.f l1 a2).bind fun t101 => (gf256_MulAdd.l0 k t101 l0 (l0.length : Int) 0)) else (some (([] : List Int), 1))) = some (r1, r2) := h
  clear h
  by_cases c4 : (l0.length : Int) = (l1.length : Int)
  · rw [if_pos c4] at H
    have c4b0 : ((l0.length : Int) == (l1.length : Int)) = true := beq_iff_eq.mpr c4
    have c4b1 : ((l0.length : Int) != (l1.length : Int)) = false := bne_eq_false_iff_eq.mpr c4
    have c4b2 : (l0.length == l1.length) = true := by first | simpa using c4 | (simp at c4 ⊢; omega)
    clear c4
    replace H := Option.bind_eq_some_iff.mp H
    obtain ⟨t101, A50, H⟩ := H
    replace H : (gf256_MulAdd.l0 k t101 l0 (l0.length : Int) 0) = some (r1, r2) := H
    have A5 := Aside0.mk A50
    clear A50
    have H' := Aside0.mk H
    clear H
    go_enter Try.func66, Try.ntmps66
    go_wp2_with (first | ((with_reducible refine gate_callee (f := 88) rfl ?_); refine goesL_ (some 18) rfl rfl Try.func88 (by kernel_rfl) rfl #[.slice A1 l1.length c1, .int .u8 a2] rfl (by (try simp only [List.map_toArray, List.map_cons, List.map_nil]); first | done | rfl | (simp only [List.length_drop, List.length_take]; rfl)) ?_; (with_reducible refine (gf256_Scale.calls _ _ l1 a2 t101 _ ?side1 ?side2 A5.out).mono ?_); (case side1 => repeat (first | exact HR1.out | (with_reducible refine Kd.C_alloc ?_ _) | (with_reducible refine Kd.C_drewN ?_ _) | (with_reducible refine Kd.C_drew ?_))); (case side2 => exact HC1.out); rintro e w6 ⟨v102, rfl, ho0, hb⟩; refine ⟨_, rfl, ?_⟩; have n0_ := Aside0.mk (Kd.R_lower ho0 (below_size (by repeat (first | (with_reducible first | exact HB.out | apply below_alloc | apply pw_below_drewN | apply below_drew1) | exact HB.out)))); have n1_ := Aside0.mk (below_step (by repeat (first | (with_reducible first | exact HB.out | apply below_alloc | apply pw_below_drewN | apply below_drew1) | exact HB.out)) hb); clear HB; have HO103 := n0_; have HB := n1_; clear n0_ n1_; (try clear hb); (try clear hb2); (try clear hk); (try clear hi); (try clear ho0)))
    go_loopg [21] k (fun kq v21 w' => ∃ (x8_1 : List Int) (x21_1 : Int), v21 = .int .i64 x21_1 ∧ Aside0 (gf256_MulAdd.l0 kq x8_1 l0 (l0.length : Int) x21_1 = some (r1, r2)) ∧ Aside0 (kq ≤ k) ∧ Aside0 (Kd.R (Kd.int .u8) 5 w' w.heap.size (fun _ => True) v102 x8_1) ∧ Aside0 (Below w.heap.size w w'))
    case atStart => exact ⟨(t101), (0), (by first | rfl | (simp; done) | (simp [*]; done)), H', ⟨Nat.le_refl _⟩, ⟨by (with_reducible repeat (first | apply Kd.R_alloc | apply Kd.R_drewN | apply Kd.R_drew)); exact HO103.out⟩, ⟨by repeat (first | (with_reducible first | exact HB.out | apply below_alloc | apply pw_below_drewN | apply below_drew1) | exact HB.out)⟩⟩
    case round =>
      clear H'
      try clear c1
      try clear p2
      try clear c4
      try clear c4b0
      try clear c4b1
      try clear c4b2
      try clear c6
      obtain ⟨x8_1, x21_1, rfl, HA, HK1, HO_8, HB⟩ := hrel
      cases gk with
      | zero => exact absurd HA.out (by simp [gf256_MulAdd.l0])
      | succ k1 =>
        have H := HA.out
        clear HA
        simp only [gf256_MulAdd.l0] at H
        by_cases c7 : x21_1 < (l0.length : Int)
        · rw [if_pos c7] at H
          have c7b0 : decide (x21_1 < (l0.length : Int)) = true := decide_eq_true c7
          clear c7
          by_cases c8 : 0 ≤ x21_1
          · rw [if_pos c8] at H
            have c8b0 : decide (0 ≤ x21_1) = true := decide_eq_true c8
            clear c8
            by_cases c9 : x21_1 < (l0.length : Int)
            · rw [if_pos c9] at H
              have c9b0 : decide (x21_1 < (l0.length : Int)) = true := decide_eq_true c9
              clear c9
              by_cases c10 : x21_1 < (x8_1.length : Int)
              · rw [if_pos c10] at H
                have c10b0 : decide (x21_1 < (x8_1.length : Int)) = true := decide_eq_true c10
                clear c10
                replace H := Option.bind_eq_some_iff.mp H
                obtain ⟨t106, A110, H⟩ := H
                replace H : (gf256_MulAdd.l0 k1 (x8_1.set (x21_1 : Int).toNat t106) l0 (l0.length : Int) (wrap64 (x21_1 + 1))) = some (r1, r2) := H
                have A11 := Aside0.mk A110
                clear A110
                obtain ⟨y107, hy107⟩ : ∃ y_ : List Int, y_ = (x8_1.set (x21_1 : Int).toNat t106) := ⟨_, rfl⟩
                replace H : (gf256_MulAdd.l0 k1 y107 l0 (l0.length : Int) (wrap64 (x21_1 + 1))) = some (r1, r2) := by first | (rw [hy107]; with_reducible exact H) | (have H2_ := (Option.bind_some _ _).symm.trans H; rw [hy107]; with_reducible exact H2_) | (have H2_ := (Option.bind_some _ _).symm.trans H; with_reducible exact H2_) | with_reducible exact H | (rw [hy107]; exact H) | exact H
                have Ny107 := Aside0.mk hy107
                clear hy107
                have H' := Aside0.mk H
                clear H
                have p104 : 0 ≤ (x21_1 : Int) := of_decide_eq_true (by first | (with_reducible assumption) | assumption)
                have q104 : x21_1 < (l0.length : Int) := of_decide_eq_true (by first | (with_reducible assumption) | assumption)
                obtain ⟨ad104, e104, hx104_0⟩ := Kd.at_int HR0.out x21_1 p104 q104
                cases e104
                replace hx104_0 := (HB.out.cell (World.block_lt_of_cell? w _ hx104_0)).trans hx104_0
                replace p104 := eq_true p104
                replace q104 := eq_true q104
                obtain ⟨Ao13, co13, eo13⟩ := Kd.R_slice HO_8.out
                subst eo13
                have p105 : 0 ≤ (x21_1 : Int) := of_decide_eq_true (by first | (with_reducible assumption) | assumption)
                have q105 : x21_1 < (x8_1.length : Int) := of_decide_eq_true (by first | (with_reducible assumption) | assumption)
                obtain ⟨ad105, e105, hx105_0⟩ := Kd.at_int (Kd.R_reads' HO_8.out).2.2 x21_1 p105 q105
                cases e105
                replace p105 := eq_true p105
                replace q105 := eq_true q105
                go_wp2_with (first | ((with_reducible refine gate_callee (f := 89) rfl ?_); refine goesL_ (some 33) rfl rfl Try.func89 (by kernel_rfl) rfl #[.int .u8 (rd x8_1 x21_1), .int .u8 (rd l0 x21_1)] rfl (by (try simp only [List.map_toArray, List.map_cons, List.map_nil]); first | done | rfl | (simp only [List.length_drop, List.length_take]; rfl)) ?_; (with_reducible refine (gf256_Add.calls (rd x8_1 x21_1) (rd l0 x21_1) t106 _ A11.out).mono ?_); rintro e w' ⟨rfl, ⟨nd, rfl⟩⟩; refine ⟨_, rfl, ?_⟩; (try (rw [drewN_self wr]; generalize hq_ : World.drewN wr _ = wr; have n0_ : Aside0 (Kd.R (Kd.int .u8) 5 wr w.heap.size (fun _ => True) (.slice (some ad105) x8_1.length co13) x8_1) := ⟨by rw [← hq_]; exact (by (with_reducible repeat (first | apply Kd.R_alloc | apply Kd.R_drewN | apply Kd.R_drew)); exact HO_8.out)⟩; have n1_ : Aside0 (Below w.heap.size w wr) := ⟨by rw [← hq_]; exact (by repeat (first | (with_reducible first | exact HB.out | apply below_alloc | apply pw_below_drewN | apply below_drew1) | exact HB.out))⟩; clear HO_8 HB hq_; have HO_8 := n0_; have HB := n1_; clear n0_ n1_)); have p12 : 0 ≤ (x21_1 : Int) := of_decide_eq_true (by first | (with_reducible assumption) | assumption); have q12 : (x21_1 : Int) < ((x8_1.length : Int) : Int) := of_decide_eq_true (by first | (with_reducible assumption) | assumption); obtain ⟨go12, co12, eo12, gb12, gl12, cl12, HG12⟩ := Kd.R_form HO_8.out (by omega); (first | cases eo12 | (injection eo12 with ea_ en_ ec_; (first | subst ea_ | (injection ea_ with ea_; subst ea_)); subst ec_; clear en_)); have GB12 := Aside0.mk gb12; have GG12 := Aside0.mk HG12; clear gb12 gl12 HG12; (first | simp only [add_plain] at hx105_0 | skip); obtain ⟨hx12_0, hf12_0⟩ := Kd.R_celln 0 HO_8.out (x21_1 : Int) p12 q12; replace p12 := eq_true p12; replace q12 := eq_true q12; obtain ⟨hy14_, hz14_⟩ := Kd.R_celln 0 HO_8.out (x21_1 : Int) (of_decide_eq_true (by first | (with_reducible assumption) | assumption)) (of_decide_eq_true (by first | (with_reducible assumption) | assumption)); have HP14 := Kd.R_putg HO_8.out (x21_1 : Int) t106) | ((with_reducible refine gate_store (t := 5) (p := 34) rfl ?_); refine store_event (t := 5) (p := 34) (v := ?vo_w15) (w1 := (wr.setCell ⟨go12, (x21_1 : Int).toNat, none⟩ (.int .u8 t106))) ?hg ?ho ?hn ?hr ?_; (case ho => rfl); (case hg => rfl); (case hn => rfl); (case hr => first | (go_simp; done) | (go_simp; rfl)); intro w15 hw; have hg : wr.grownBy w15 (some go12) := (by rw [hw]; exact HP14.2); have hp_ : Kd.R (Kd.int .u8) 5 w15 w.heap.size (fun _ => True) (.slice (some ⟨go12, 0, none⟩) x8_1.length co13) y107 := (by rw [hw, Ny107.out]; exact HP14.1); clear HP14; have n0_ := Aside0.mk (hp_); have n1_ := Aside0.mk ((by rw [hw]; exact below_set (HB.out) GB12.out : Below w.heap.size w w15)); clear HO_8; clear HB; have HO_8 := n0_; have HB := n1_; clear n0_ n1_; clear hg hw hp_))
                go_roundg k1
                case measure => have := HK1.out; omega
                case rel => exact ⟨(y107), (wrap64 (x21_1 + 1)), (by first | rfl | (simp; done) | (simp [*]; done)), H', ⟨by have := HK1.out; omega⟩, ⟨by (with_reducible repeat (first | apply Kd.R_alloc | apply Kd.R_drewN | apply Kd.R_drew)); exact HO_8.out⟩, ⟨by repeat (first | (with_reducible first | exact HB.out | apply below_alloc | apply pw_below_drewN | apply below_drew1) | exact HB.out)⟩⟩
              · rw [if_neg c10] at H
                exact absurd H (by simp)
            · rw [if_neg c9] at H
              exact absurd H (by simp)
          · rw [if_neg c8] at H
            exact absurd H (by simp)
        · rw [if_neg c7] at H
          have c7b0 : decide (x21_1 < (l0.length : Int)) = false := decide_eq_false c7
          clear c7
          simp only [Option.some.injEq, Prod.mk.injEq] at H
          obtain ⟨rfl, rfl⟩ := H
          go_wp2
          go_ret2
          exact ⟨_, by first | rfl | (simp [errW_none, errW_some] <;> rfl) | (simp [*, errW_none, errW_some] <;> rfl), by (with_reducible repeat (first | apply Kd.R_alloc | apply Kd.R_drewN | apply Kd.R_drew)); exact HO_8.out, by repeat (first | (with_reducible first | exact HB.out | apply below_alloc | apply pw_below_drewN | apply below_drew1) | exact HB.out)⟩
  · rw [if_neg c4] at H
    have c4b0 : ((l0.length : Int) == (l1.length : Int)) = false := beq_eq_false_iff_ne.mpr c4
    have c4b1 : ((l0.length : Int) != (l1.length : Int)) = true := bne_iff_ne.mpr c4
    have c4b2 : (l0.length == l1.length) = false := by first | simpa using c4 | (simp at c4 ⊢; omega)
    simp only [Option.some.injEq, Prod.mk.injEq] at H
    obtain ⟨rfl, rfl⟩ := H
    go_enter Try.func66, Try.ntmps66
    go_wp2
    go_ret2
    exact ⟨_, by first | rfl | (simp [errW_none, errW_some] <;> rfl) | (simp [*, errW_none, errW_some] <;> rfl), by first | exact Kd.R_nil _ _ _ _ _ | exact Kd.N_nil _ _ _ _ _ | exact Kd.V_nil _ _ _ _ _ | exact Kd.Q_nil _ _ _ _ _ | exact Kd.S_nil _ _ _ _ _, by repeat (first | (with_reducible first | exact HB.out | apply below_alloc | apply pw_below_drewN | apply below_drew1) | exact HB.out)⟩

/-! ### matrix_clone: function 86 -/
def matrix_clone.l0 : Nat → List (List Int) → List (List Int) → Int → Int → Option ((List (List Int)))
  | 0, _, _, _, _ => none
  | k + 1, x3, x9, x10, x11 => if x11 < x10 then (if 0 ≤ x11 then (if x11 < (x9.length : Int) then ((slices_Clone_byte_byte.f (rd_L1 x9 x11)).bind fun t112 => (if x11 < (x3.length : Int) then (matrix_clone.l0 k (x3.set (x11 : Int).toNat t112) x9 x10 (wrap64 (x11 + 1))) else (none))) else (none)) else (none)) else (some x3)
def matrix_clone.f (k : Nat) (l0 : List (List Int)) : Option ((List (List Int))) := if 0 ≤ (l0.length : Int) then (if ((l0.length : Int) : Int).toNat ≤ 11728124029610 then (matrix_clone.l0 k (List.replicate ((l0.length : Int) : Int).toNat []) l0 (l0.length : Int) 0) else (none)) else (none)
theorem matrix_clone.mono_l : ∀ k, (∀ y0 y1 y2 y3, LeO (matrix_clone.l0 k y0 y1 y2 y3) (matrix_clone.l0 (k + 1) y0 y1 y2 y3))
  | 0 => fun _ _ _ _ r h => by simp [matrix_clone.l0] at h
  | k + 1 => by
    have ih0 := matrix_clone.mono_l k
    · intro y0 y1 y2 y3
      unfold matrix_clone.l0
      repeat' first
      | (with_reducible exact ih0 _ _ _ _)
      | (with_reducible exact LeO.refl _)
      | (with_reducible exact LeO.none _)
      | (with_reducible refine LeO.ite ?_ ?_)
      | (with_reducible refine LeO.bind ?_ (fun _ => ?_))
      | exact ih0 _ _ _ _
      | exact LeO.none _
      | refine LeO.ite ?_ ?_
      | refine LeO.bind ?_ (fun _ => ?_)
theorem matrix_clone.mono : ∀ a0 k, LeO (matrix_clone.f k a0) (matrix_clone.f (k + 1) a0) := by
  intro a0 k
  have ih0 := matrix_clone.mono_l k
  unfold matrix_clone.f
  repeat' first
      | (with_reducible exact ih0 _ _ _ _)
      | (with_reducible exact LeO.refl _)
      | (with_reducible exact LeO.none _)
      | (with_reducible refine LeO.ite ?_ ?_)
      | (with_reducible refine LeO.bind ?_ (fun _ => ?_))
      | exact ih0 _ _ _ _
      | exact LeO.none _
      | refine LeO.ite ?_ ?_
      | refine LeO.bind ?_ (fun _ => ?_)
set_option maxHeartbeats 8000000 in
set_option maxRecDepth 100000 in
theorem matrix_clone.calls (k : Nat) (A0 : Option Addr) (c0 : Nat) (l0 : List (List Int)) (r : List (List Int)) (w : World) (hr0 : Kd.C (Kd.slice 5 (Kd.int .u8)) w A0 l0.length l0) (hc0 : l0.length ≤ c0) (h : matrix_clone.f k l0 = some r) :
    Calls Try.prog 86 #[.slice A0 l0.length c0] w fun e w' => ∃ v0_ : Value, e = .returned (v0_) ∧ Kd.S (Kd.slice 5 (Kd.int .u8)) 34 w' w.heap.size (fun _ => True) v0_ r ∧ Below w.heap.size w w' := by
  have HR0 := Aside0.mk hr0
  have HC0 := Aside0.mk hc0
  clear hr0 hc0
  have HB := Aside0.mk (Below.refl w.heap.size w)
  have H : (if 0 ≤ (l0.length : Int) then (if ((l0.length : Int) : Int).toNat ≤ 11728124029610 then (matrix_clone.l0 k (List.replicate ((l0.length : Int) : Int).toNat []) l0 (l0.length : Int) 0) else (none)) else (none)) = some r := h
  clear h
  by_cases c2 : 0 ≤ (l0.length : Int)
  · rw [if_pos c2] at H
    have c2b0 := eq_true c2
    have c2b1 : decide (0 ≤ (l0.length : Int)) = true := decide_eq_true c2
    clear c2
    by_cases c3 : ((l0.length : Int) : Int).toNat ≤ 11728124029610
    · rw [if_pos c3] at H
      have c3b0 := eq_true c3
      have c3b1 : decide (((l0.length : Int) : Int).toNat ≤ 11728124029610) = true := decide_eq_true c3
      clear c3
      obtain ⟨y108, hy108⟩ : ∃ y_ : List (List Int), y_ = (List.replicate ((l0.length : Int) : Int).toNat []) := ⟨_, rfl⟩
      replace H : (matrix_clone.l0 k y108 l0 (l0.length : Int) 0) = some r := by first | (rw [hy108]; with_reducible exact H) | (have H2_ := (Option.bind_some _ _).symm.trans H; rw [hy108]; with_reducible exact H2_) | (have H2_ := (Option.bind_some _ _).symm.trans H; with_reducible exact H2_) | with_reducible exact H | (rw [hy108]; exact H) | exact H
      have Ny108 := Aside0.mk hy108
      clear hy108
      have H' := Aside0.mk H
      clear H
      go_enter Try.func86, Try.ntmps86
      go_wp2_with (first | ((with_reducible refine gate_dst (N := 8) rfl ?_); refine Kd.S_make (Kd.slice 5 (Kd.int .u8)) _ 34 rfl (N := 8) rfl 22 _ _ rfl (l0.length : Int) rfl rfl Try.underlying22 (.slice none 0 0) 24 info34 rfl (by decide) (by omega) [] (ok := fun _ => True) (okp := fun _ => True) ⟨_, rfl, Kd.R_nil _ _ _ _ _⟩ (fun _ hk => hk) trivial (of_decide_eq_true (by first | (with_reducible assumption) | assumption)) (Nat.le_trans (Nat.mul_le_mul_right _ (of_decide_eq_true (by first | (with_reducible assumption) | assumption) : (l0.length : Int).toNat ≤ 11728124029610)) (by omega)) (Below.refl _ _) (Nat.le_refl _) ?_; intro v109 w4 ho5 hb hg_ hnew_; clear hg_ hnew_; (first | rw [← Ny108.out] at ho5 | (simp only [Int.reduceToNat] at ho5; rw [← Ny108.out] at ho5)); have n0_ := Aside0.mk (Kd.S_lower ho5 (below_size (by repeat (first | (with_reducible first | exact HB.out | apply below_alloc | apply pw_below_drewN | apply below_drew1) | exact HB.out)))); have n1_ := Aside0.mk (below_step (by repeat (first | (with_reducible first | exact HB.out | apply below_alloc | apply pw_below_drewN | apply below_drew1) | exact HB.out)) hb); clear HB; have HO110 := n0_; have HB := n1_; clear n0_ n1_; clear hb ho5))
      go_loopg [11] k (fun kq v11 w' => ∃ (x3_1 : List (List Int)) (x11_1 : Int), v11 = .int .i64 x11_1 ∧ Aside0 (matrix_clone.l0 kq x3_1 l0 (l0.length : Int) x11_1 = some r) ∧ Aside0 (kq ≤ k) ∧ Aside0 (Kd.S (Kd.slice 5 (Kd.int .u8)) 34 w' w.heap.size (fun _ => True) v109 x3_1) ∧ Aside0 (Below w.heap.size w w'))
      case atStart => exact ⟨(y108), (0), (by first | rfl | (simp; done) | (simp [*]; done)), H', ⟨Nat.le_refl _⟩, ⟨by (with_reducible repeat (first | apply Kd.S_alloc | apply Kd.S_drewN | apply Kd.S_drew)); exact HO110.out⟩, ⟨by repeat (first | (with_reducible first | exact HB.out | apply below_alloc | apply pw_below_drewN | apply below_drew1) | exact HB.out)⟩⟩
      case round =>
        clear H'
        try clear c2
        try clear c2b0
        try clear c2b1
        try clear p2
        try clear c3
        try clear c3b0
        try clear c3b1
        obtain ⟨x3_1, x11_1, rfl, HA, HK1, HO_3, HB⟩ := hrel
        cases gk with
        | zero => exact absurd HA.out (by simp [matrix_clone.l0])
        | succ k1 =>
          have H := HA.out
          clear HA
          simp only [matrix_clone.l0] at H
          by_cases c6 : x11_1 < (l0.length : Int)
          · rw [if_pos c6] at H
            have c6b0 : decide (x11_1 < (l0.length : Int)) = true := decide_eq_true c6
            clear c6
            by_cases c7 : 0 ≤ x11_1
            · rw [if_pos c7] at H
              have c7b0 : decide (0 ≤ x11_1) = true := decide_eq_true c7
              clear c7
              by_cases c8 : x11_1 < (l0.length : Int)
              · rw [if_pos c8] at H
                have c8b0 : decide (x11_1 < (l0.length : Int)) = true := decide_eq_true c8
                clear c8
                replace H := Option.bind_eq_some_iff.mp H
                obtain ⟨t112, A90, H⟩ := H
                replace H : (if x11_1 < (x3_1.length : Int) then (matrix_clone.l0 k1 (x3_1.set (x11_1 : Int).toNat t112) l0 (l0.length : Int) (wrap64 (x11_1 + 1))) else (none)) = some r := H
                have A9 := Aside0.mk A90
                clear A90
                by_cases c10 : x11_1 < (x3_1.length : Int)
                · rw [if_pos c10] at H
                  have c10b0 : decide (x11_1 < (x3_1.length : Int)) = true := decide_eq_true c10
                  clear c10
                  obtain ⟨y115, hy115⟩ : ∃ y_ : List (List Int), y_ = (x3_1.set (x11_1 : Int).toNat t112) := ⟨_, rfl⟩
                  replace H : (matrix_clone.l0 k1 y115 l0 (l0.length : Int) (wrap64 (x11_1 + 1))) = some r := by first | (rw [hy115]; with_reducible exact H) | (have H2_ := (Option.bind_some _ _).symm.trans H; rw [hy115]; with_reducible exact H2_) | (have H2_ := (Option.bind_some _ _).symm.trans H; with_reducible exact H2_) | with_reducible exact H | (rw [hy115]; exact H) | exact H
                  have Ny115 := Aside0.mk hy115
                  clear hy115
                  have H' := Aside0.mk H
                  clear H
                  have p111 : 0 ≤ (x11_1 : Int) := of_decide_eq_true (by first | (with_reducible assumption) | assumption)
                  have q111 : x11_1 < (l0.length : Int) := of_decide_eq_true (by first | (with_reducible assumption) | assumption)
                  obtain ⟨ad111, A111_0, c111_0, e111, hx111_0, hl111_0, hi111_0⟩ := at_L1 HR0.out x11_1 p111 q111
                  cases e111
                  replace hx111_0 := (HB.out.cell (World.block_lt_of_cell? w _ hx111_0)).trans hx111_0
                  have HR111_0 := Aside0.mk hi111_0
                  have HC111_0 := Aside0.mk hl111_0
                  clear hi111_0 hl111_0
                  replace p111 := eq_true p111
                  replace q111 := eq_true q111
                  go_wp2_with (first | ((with_reducible refine gate_callee (f := 63) rfl ?_); refine goesL_ (some 19) rfl rfl Try.func63 (by kernel_rfl) rfl #[.slice A111_0 (rd_L1 l0 x11_1).length c111_0] rfl (by (try simp only [List.map_toArray, List.map_cons, List.map_nil]); first | done | rfl | (simp only [List.length_drop, List.length_take]; rfl)) ?_; (with_reducible refine (slices_Clone_byte_byte.calls _ _ (rd_L1 l0 x11_1) t112 _ ?side1 ?side2 A9.out).mono ?_); (case side1 => repeat (first | exact (Kd.C_below HR111_0.out HB.out) | (with_reducible refine Kd.C_alloc ?_ _) | (with_reducible refine Kd.C_drewN ?_ _) | (with_reducible refine Kd.C_drew ?_))); (case side2 => exact HC111_0.out); rintro e w12 ⟨v113, rfl, ho0, hb⟩; refine ⟨_, rfl, ?_⟩; have n0_ := Aside0.mk (Kd.S_elder' (by (with_reducible repeat (first | apply Kd.S_alloc | apply Kd.S_drewN | apply Kd.S_drew)); exact HO_3.out) (Kd.R_base ho0) hb); have n1_ := Aside0.mk (Kd.R_lower ho0 (below_size (by repeat (first | (with_reducible first | exact HB.out | apply below_alloc | apply pw_below_drewN | apply below_drew1) | exact HB.out)))); have n2_ := Aside0.mk (below_step (by repeat (first | (with_reducible first | exact HB.out | apply below_alloc | apply pw_below_drewN | apply below_drew1) | exact HB.out)) hb); clear HO_3; clear HB; have HO_3 := n0_; have HO114 := n1_; have HB := n2_; clear n0_ n1_ n2_; (try clear hb); (try clear hb2); (try clear hk); (try clear hi); (try clear ho0); have p11 : 0 ≤ (x11_1 : Int) := of_decide_eq_true (by first | (with_reducible assumption) | assumption); have q11 : (x11_1 : Int) < ((x3_1.length : Int) : Int) := of_decide_eq_true (by first | (with_reducible assumption) | assumption); obtain ⟨go11, co11, eo11, gb11, gl11, cl11, HG11⟩ := Kd.S_form HO_3.out (by omega); (first | cases eo11 | (injection eo11 with ea_ en_ ec_; (first | subst ea_ | (injection ea_ with ea_; subst ea_)); subst ec_; clear en_)); have GB11 := Aside0.mk gb11; have GG11 := Aside0.mk HG11; clear gb11 gl11 HG11; obtain ⟨_, ce11, hcl11, hM11, hcc11, hfr11, _, _⟩ := Kd.S_elem HO_3.out [] (x11_1 : Int) p11 q11; obtain ⟨ve11_0, rfl, ge11_0⟩ := hM11; have hx11_0 := hcc11 0 _ rfl; have hf11_0 := hfr11 0; (try simp only [show ((Kd.slice 5 (Kd.int .u8))).sz = 1 from rfl, Nat.mul_one, Nat.add_zero] at hx11_0); (try simp only [show ((Kd.slice 5 (Kd.int .u8))).sz = 1 from rfl, Nat.mul_one, Nat.add_zero] at hf11_0); clear hcl11 hcc11 hfr11; (try clear hM11); replace p11 := eq_true p11; replace q11 := eq_true q11; have n_ := Aside0.mk (Kd.S_mono (ok' := (fun k_ => some k_ ≠ (v113 : Value).ownBlock)) HO_3.out (fun k_ hk => hk.2)); clear HO_3; have HO_3 := n_; clear n_; have HX13 := Aside0.mk (show Kd.S (Kd.slice 5 (Kd.int .u8)) 34 w12 w.heap.size (fun k_ => ((fun _ => True)) k_ ∧ ¬ ((fun k_ => some k_ = (v113 : Value).ownBlock)) k_) (.slice (some ⟨go11, 0, none⟩) x3_1.length co11) x3_1 from (by (with_reducible repeat (first | apply Kd.S_alloc | apply Kd.S_drewN | apply Kd.S_drew)); exact Kd.S_mono HO_3.out (fun k_ hk => ⟨trivial, fun e_ => hk e_⟩))); obtain ⟨oki13, ce13, hcl13, hM13, hcc13, hfr13, hoki13, hH13⟩ := Kd.S_elem HX13.out [] (x11_1 : Int) (of_decide_eq_true (by first | (with_reducible assumption) | assumption)) (by have h_ : (x11_1 : Int) < ((x3_1.length : Int) : Int) := of_decide_eq_true (by first | (with_reducible assumption) | assumption); first | exact h_ | (have e_ := (Kd.S_reads' HO_3.out).1; omega) | simpa using h_); obtain ⟨ve13_0, rfl, ge13_0⟩ := hM13; have HP13 := Kd.S_seg hH13 (of_decide_eq_true (by first | (with_reducible assumption) | assumption)) (by have h_ : (x11_1 : Int) < ((x3_1.length : Int) : Int) := of_decide_eq_true (by first | (with_reducible assumption) | assumption); first | exact h_ | (have e_ := (Kd.S_reads' HO_3.out).1; omega) | simpa using h_) (seg := [v113]) (j := 0) (show 1 ≤ 1 from by decide) (x' := t112) (Kd.M_row (Kd.R_mono (Kd.R_tight rfl (Kd.R_mono (ok' := fun k_ => ((fun _ => True)) k_ ∧ k_ ≠ go11) (Kd.R_apart' (HO114.out) (Kd.S_typed HO_3.out) (by decide)) (fun k_ hk => ⟨trivial, fun e_ => (hk.2) (by rw [e_]; rfl)⟩))) (fun _ h_ => Or.inr (h_)))) (fun _ hk => hk) (fun k_ hk_ => ((Kd.R_mono (ok' := fun k_ => ((fun _ => True)) k_ ∧ k_ ≠ go11) (Kd.R_apart' (HO114.out) (Kd.S_typed HO_3.out) (by decide)) (fun k_ hk => ⟨trivial, fun e_ => (hk.2) (by rw [e_]; rfl)⟩))).1 k_ hk_.symm); have hx13_0 := hcc13 0 _ rfl; (try simp only [show ((Kd.slice 5 (Kd.int .u8))).sz = 1 from rfl, Nat.mul_one, Nat.add_zero] at hx13_0); have hf13_0 := hfr13 0; (try simp only [show ((Kd.slice 5 (Kd.int .u8))).sz = 1 from rfl, Nat.mul_one, Nat.add_zero] at hf13_0); clear hcl13 hcc13 hfr13 hoki13 hH13; (try clear hM13); (try simp only [show ((Kd.slice 5 (Kd.int .u8))).sz = 1 from rfl, Nat.mul_one, Nat.add_zero] at HP13)) | ((with_reducible refine gate_store (t := 34) (p := 20) rfl ?_); refine store_event (t := 34) (p := 20) (v := ?vo_w14) (w1 := (w12.setCell ⟨go11, (x11_1 : Int).toNat, none⟩ (v113))) ?hg ?ho ?hn ?hr ?_; (case ho => rfl); (case hg => rfl); (case hn => rfl); (case hr => first | (go_simp; done) | (go_simp; rfl) | (obtain ⟨A_, c_, e_⟩ : ∃ A_ c_, v113 = .slice A_ _ c_ := Kd.R_slice (Aside0.out (by assumption)); rw [e_]; go_simp; done) | (obtain ⟨A_, c_, e_⟩ : ∃ A_ c_, v113 = .slice A_ _ c_ := Kd.R_slice (Aside0.out (by assumption)); rw [e_]; go_simp; rfl)); intro w14 hw; have hg : w12.grownBy w14 (some go11) := (by rw [hw]; exact HP13.2); have hp_ : Kd.S (Kd.slice 5 (Kd.int .u8)) 34 w14 w.heap.size (fun _ => True) (.slice (some ⟨go11, 0, none⟩) x3_1.length co11) y115 := (by rw [hw, Ny115.out]; exact HP13.1); clear HP13; have n0_ := Aside0.mk (hp_); have n1_ := Aside0.mk ((by rw [hw]; exact below_set (HB.out) GB11.out : Below w.heap.size w w14)); clear HO_3; clear HB; clear HO114; have HO_3 := n0_; have HB := n1_; clear n0_ n1_; clear hg hw hp_))
                  go_roundg k1
                  case measure => have := HK1.out; omega
                  case rel => exact ⟨(y115), (wrap64 (x11_1 + 1)), (by first | rfl | (simp; done) | (simp [*]; done)), H', ⟨by have := HK1.out; omega⟩, ⟨by (with_reducible repeat (first | apply Kd.S_alloc | apply Kd.S_drewN | apply Kd.S_drew)); exact HO_3.out⟩, ⟨by repeat (first | (with_reducible first | exact HB.out | apply below_alloc | apply pw_below_drewN | apply below_drew1) | exact HB.out)⟩⟩
                · rw [if_neg c10] at H
                  exact absurd H (by simp)
              · rw [if_neg c8] at H
                exact absurd H (by simp)
            · rw [if_neg c7] at H
              exact absurd H (by simp)
          · rw [if_neg c6] at H
            have c6b0 : decide (x11_1 < (l0.length : Int)) = false := decide_eq_false c6
            clear c6
            obtain rfl := Option.some.inj H
            go_wp2
            go_ret
            exact ⟨_, by first | rfl | (simp [errW_none, errW_some] <;> rfl) | (simp [*, errW_none, errW_some] <;> rfl), by (with_reducible repeat (first | apply Kd.S_alloc | apply Kd.S_drewN | apply Kd.S_drew)); exact HO_3.out, by repeat (first | (with_reducible first | exact HB.out | apply below_alloc | apply pw_below_drewN | apply below_drew1) | exact HB.out)⟩
    · rw [if_neg c3] at H
      exact absurd H (by simp)
  · rw [if_neg c2] at H
    exact absurd H (by simp)

end Go.Proofs.Ytpkghpljgjlmjaa.K
/- gf256.MulAdd and matrix.clone compute what is said here. -/
namespace Go.Proofs.Ytpkghpljgjlmjaa.K
open Go.RowKit Go.Proofs.YtpkghpljgjlmjaaW.PrintWords Kin
set_option linter.unusedVariables false

theorem wrap_succ {i : Int} {n : Nat} (h0 : 0 ≤ i) (h : i < (n : Int)) (hn : n ≤ 9223372036854775807) : wrap64 (i + 1) = i + 1 := by
  unfold wrap64
  omega
theorem wrap_nat {i : Nat} (h : i < 9223372036854775807) : wrap64 ((i : Int) + 1) = ((i + 1 : Nat) : Int) := by
  unfold wrap64
  omega
/-- d plus c times s, byte by byte. -/
def addS (d s : List B) (c : B) : List B := List.zipWith (fun a x => a ^^^ gmul x c) d s
theorem addS_length (d s : List B) (c : B) (h : d.length = s.length) : (addS d s c).length = d.length := by simp [addS, h]
theorem getD_up (l : List B) (i : Nat) : rd (up l) (i : Int) = b2i (l.getD i 0) := by rw [rd_up, Int.toNat_natCast]
theorem muladd_l0 (m : Nat) : ∀ (k i : Nat) (o d : List B), o.length = d.length → d.length ≤ 140737488351232 → d.length - i = m → i ≤ d.length → m < k →
    gf256_MulAdd.l0 k (up o) (up d) (d.length : Int) (i : Int) = some (up (o.take i ++ List.zipWith (fun a b => b ^^^ a) (d.drop i) (o.drop i)), 0) := by
  induction m with
  | zero =>
    intro k i o d hl hn hm hi hk
    obtain ⟨k, rfl⟩ : ∃ j, k = j + 1 := ⟨k - 1, by omega⟩
    have : i = d.length := by omega
    subst this
    simp only [gf256_MulAdd.l0]
    rw [if_neg (by omega)]
    rw [List.take_of_length_le (by omega), List.drop_of_length_le (Nat.le_refl _)]
    simp
  | succ m ih =>
    intro k i o d hl hn hm hi hk
    obtain ⟨k, rfl⟩ : ∃ j, k = j + 1 := ⟨k - 1, by omega⟩
    simp only [gf256_MulAdd.l0]
    rw [if_pos (by omega), if_pos (by omega), if_pos (by rw [up_length]; omega), if_pos (by rw [up_length]; omega), getD_up, getD_up, add_b]
    simp only [Option.bind_some]
    rw [Int.toNat_natCast, set_up, wrap_nat (by omega), ih _ _ _ _ (by simpa using hl) hn (by omega) (by omega) (by omega)]
    congr 3
    have hio : i < o.length := by omega
    rw [List.take_succ_eq_append_getElem (by simpa using hio)]
    rw [List.drop_set_of_lt (by omega), List.take_set_of_le (Nat.le_refl _)]
    simp [List.getD_eq_getElem?_getD, List.getElem?_eq_getElem hio, List.getElem?_eq_getElem (show i < d.length by omega)]
    rw [List.drop_eq_getElem_cons (show i < d.length by omega), List.drop_eq_getElem_cons hio, List.zipWith_cons_cons]
theorem muladd_up (d s : List B) (c : B) (hl : d.length = s.length) (hn : d.length ≤ 140737488351232) {k : Nat} (hk : d.length < k) :
    gf256_MulAdd.f k (up d) (up s) (b2i c) = some (up (addS d s c), 0) := by
  rw [gf256_MulAdd.f, if_pos (by rw [up_length, up_length, hl]), scale_up s c (by omega)]
  simp only [Option.bind_some]
  have h := muladd_l0 d.length k 0 (s.map fun x => gmul x c) d (by simp [hl]) hn (by omega) (by omega) hk
  rw [up_length]
  rw [show (0 : Int) = ((0 : Nat) : Int) from rfl, h]
  congr 3
  rw [List.take_zero, List.nil_append, List.drop_zero, List.drop_zero, addS, List.zipWith_map_right]
  congr 1
  funext a x
  exact bx_comm _ _
theorem muladd_ne (d s : List Int) (c : Int) (hl : d.length ≠ s.length) (k : Nat) : gf256_MulAdd.f k d s c = some ([], 1) := by
  rw [gf256_MulAdd.f, if_neg (by omega)]
theorem clone_l0 (m : Nat) : ∀ (k i : Nat) (o l : List (List Int)), o.length = l.length → l.length ≤ 11728124029610 → (∀ x ∈ l, x.length ≤ 140737488351232) → l.length - i = m → i ≤ l.length → m < k →
    matrix_clone.l0 k o l (l.length : Int) (i : Int) = some (o.take i ++ l.drop i) := by
  induction m with
  | zero =>
    intro k i o l hl hn hx hm hi hk
    obtain ⟨k, rfl⟩ : ∃ j, k = j + 1 := ⟨k - 1, by omega⟩
    have : i = l.length := by omega
    subst this
    simp only [matrix_clone.l0]
    rw [if_neg (by omega), List.take_of_length_le (by omega), List.drop_of_length_le (Nat.le_refl _), List.append_nil]
  | succ m ih =>
    intro k i o l hl hn hx hm hi hk
    obtain ⟨k, rfl⟩ : ∃ j, k = j + 1 := ⟨k - 1, by omega⟩
    have hio : i < l.length := by omega
    have hr : rd_L1 l (i : Int) = l[i] := by simp [rd_L1, List.getD_eq_getElem?_getD, List.getElem?_eq_getElem hio]
    simp only [matrix_clone.l0]
    rw [if_pos (by omega), if_pos (by omega), if_pos (by omega), hr, slices_Clone_byte_byte.f, if_pos (hx _ (List.getElem_mem hio))]
    simp only [Option.bind_some]
    rw [if_pos (by omega), Int.toNat_natCast, wrap_nat (by omega), ih _ _ _ _ (by simpa using hl) hn hx (by omega) (by omega) (by omega)]
    congr 1
    rw [List.take_succ_eq_append_getElem (by simp; omega), List.take_set_of_le (Nat.le_refl _), List.drop_eq_getElem_cons hio]
    simp
theorem clone_eq (l : List (List Int)) (hn : l.length ≤ 11728124029610) (hx : ∀ x ∈ l, x.length ≤ 140737488351232) {k : Nat} (hk : l.length < k) : matrix_clone.f k l = some l := by
  rw [matrix_clone.f, if_pos (by omega), if_pos (by omega)]
  have h := clone_l0 l.length k 0 (List.replicate l.length []) l (by simp) hn hx (by omega) (by omega) hk
  rw [Int.toNat_natCast]
  rw [show (0 : Int) = ((0 : Nat) : Int) from rfl, h]
  rfl
end Go.Proofs.Ytpkghpljgjlmjaa.K
/- Words of this claim's own: a made row of bytes stored into a row of rows; blocks told apart by their types. -/
namespace Go.Proofs.Ytpkghpljgjlmjaa.K
open Go.RowKit Go.Proofs.YtpkghpljgjlmjaaW.PrintWords Go.Proofs.YtpkghpljgjlmjaaW.PrintLast Go.Proofs.YtpkghpljgjlmjaaW.PrintMore
set_option linter.unusedVariables false

/-- Rows of bytes, as elements. -/
abbrev D := Kd.slice 5 (Kd.int .u8)
section
variable {W w w1 : World} {base g n cap : Nat} {ok : Nat → Prop} {v : Value} {xs : List (List Int)} {y : List Int}
/-- 'rows[i] = y', y a made row that is none of the rows. -/
theorem S_put (hS : Kd.S D 34 W base (fun k => some k ≠ v.ownBlock) (.slice (some ⟨g, 0, none⟩) n cap) xs) (hv : Kd.R (Kd.int .u8) 5 W base (fun k => k ≠ g) v y) (i : Int) (h0 : 0 ≤ i) (h1 : i < n) :
    Kd.S D 34 (W.setCell ⟨g, i.toNat, none⟩ v) base (fun _ => True) (.slice (some ⟨g, 0, none⟩) n cap) (xs.set i.toNat y) := by
  have hX : Kd.S D 34 W base (fun k => (fun _ => True) k ∧ ¬ (some k = v.ownBlock)) (.slice (some ⟨g, 0, none⟩) n cap) xs := Kd.S_mono hS (fun k hk => ⟨trivial, hk⟩)
  obtain ⟨oki, c, hcl, hM, hcc, hfr, hoki, hH⟩ := Kd.S_elem hX [] i h0 h1
  have hlen : c.length = 1 := hcl
  have hM' : (D).M W base (fun k => oki k ∨ some k = v.ownBlock) y (c.take 0 ++ [v] ++ c.drop (0 + [v].length)) := by
    have hd : c.drop (0 + [v].length) = [] := by apply List.drop_eq_nil_of_le; simp [hlen]
    rw [hd]
    exact ⟨v, rfl, Kd.R_mono (Kd.R_tight rfl hv) (fun k hk => .inr hk)⟩
  have hP := Kd.S_seg hH h0 h1 (seg := [v]) (j := 0) (show 0 + [v].length ≤ (D).sz from Nat.le_refl 1) (x' := y) hM' (fun _ hk => hk) (fun k hk => ⟨trivial, hv.1 k hk.symm⟩)
  have h2 := hP.1
  have hz : i.toNat * (D).sz + 0 = i.toNat := by show i.toNat * 1 + 0 = _; omega
  rw [hz] at h2
  exact h2
/-- The same, y made by a call from W0 on. -/
theorem S_put_fresh {W0 : World} (hS : Kd.S D 34 W0 base (fun _ => True) (.slice (some ⟨g, 0, none⟩) n cap) xs) (hb : Below W0.heap.size W0 w1) (hv : Kd.R (Kd.int .u8) 5 w1 W0.heap.size (fun _ => True) v y) (hbase : base ≤ W0.heap.size) (hg : g < W0.heap.size) (i : Int) (h0 : 0 ≤ i) (h1 : i < n) :
    Kd.S D 34 (w1.setCell ⟨g, i.toNat, none⟩ v) base (fun _ => True) (.slice (some ⟨g, 0, none⟩) n cap) (xs.set i.toNat y) :=
  S_put (Kd.S_mono (Kd.S_elder' hS (Kd.R_base hv) hb) (fun k hk => hk.2)) (Kd.R_lower (Kd.R_mono (Kd.R_bound hv) (fun k hk => by have := hk.2.1; omega)) hbase) i h0 h1
end
end Go.Proofs.Ytpkghpljgjlmjaa.K
/- matrix.Apply: for each row the sum of the blocks, each multiplied by the element of its column. -/
namespace Go.Proofs.Ytpkghpljgjlmjaa.K
open Go.RowKit Go.Proofs.YtpkghpljgjlmjaaW.PrintWords Go.Proofs.YtpkghpljgjlmjaaW.PrintLast Go.Proofs.YtpkghpljgjlmjaaW.PrintMore Kin
set_option linter.unusedVariables false

def toB2 (l : List (List Int)) : List (List B) := l.map fun x => x.map toB
theorem toB2_up2 (m : List (List B)) : toB2 (up2 m) = m := by
  simp only [toB2, up2, List.map_map]
  conv => rhs; rw [← List.map_id m]
  apply List.map_congr_left
  intro x _
  simp only [Function.comp, up, List.map_map, id]
  conv => rhs; rw [← List.map_id x]
  apply List.map_congr_left
  intro y _
  exact toB_b2i y
theorem exists_up2 {l : List (List Int)} (h : ∀ x ∈ l, ∀ y ∈ x, isB y = true) : ∃ m : List (List B), l = up2 m := by
  induction l with
  | nil => exact ⟨[], rfl⟩
  | cons x l ih =>
    obtain ⟨m, rfl⟩ := ih (fun y hy => h y (List.mem_cons_of_mem _ hy))
    obtain ⟨r, rfl⟩ := exists_up (h x List.mem_cons_self)
    exact ⟨r :: m, rfl⟩
theorem colsN_up2 (m : List (List B)) : colsN (up2 m) = colsN m := by
  cases m with
  | nil => rfl
  | cons x m => simp [colsN, up2_cons, up_length]
theorem validB_up2 (m : List (List B)) : validB (up2 m) = validB m := by
  unfold validB
  rw [colsN_up2, up2_length]
  congr 2
  simp only [up2, List.all_map]
  congr 1
  funext x
  simp [Function.comp, up_length]
theorem zero_l0 (m : Nat) : ∀ (k i c r : Nat) (o : List (List Int)), o.length = r → r ≤ 11728124029610 → c ≤ 281474976710656 → r - i = m → i ≤ r → m < k →
    matrix_zero.l0 k (c : Int) o (r : Int) (i : Int) = some (o.take i ++ List.replicate (r - i) (List.replicate c 0)) := by
  induction m with
  | zero =>
    intro k i c r o hl hr hc hm hi hk
    obtain ⟨k, rfl⟩ : ∃ j, k = j + 1 := ⟨k - 1, by omega⟩
    have : i = r := by omega
    subst this
    simp only [matrix_zero.l0]
    rw [if_neg (by omega), List.take_of_length_le (by omega), Nat.sub_self]
    simp
  | succ m ih =>
    intro k i c r o hl hr hc hm hi hk
    obtain ⟨k, rfl⟩ : ∃ j, k = j + 1 := ⟨k - 1, by omega⟩
    simp only [matrix_zero.l0]
    rw [if_pos (by omega), if_pos (by omega), if_pos (by omega), if_pos (by omega), if_pos (by omega), Int.toNat_natCast, Int.toNat_natCast, wrap_nat (by omega),
      ih _ _ _ _ _ (by simpa using hl) hr hc (by omega) (by omega) (by omega)]
    congr 1
    rw [List.take_succ_eq_append_getElem (by simp; omega), List.take_set_of_le (Nat.le_refl _), show r - i = (r - (i + 1)) + 1 by omega, List.replicate_succ]
    simp
theorem zero_eq (r c : Nat) (hr : r ≤ 11728124029610) (hc : c ≤ 281474976710656) {k : Nat} (hk : r < k) : matrix_zero.f k (r : Int) (c : Int) = some (List.replicate r (List.replicate c 0)) := by
  rw [matrix_zero.f, if_pos (by omega), if_pos (by omega)]
  simp only [Option.bind_some, Int.toNat_natCast, List.length_replicate]
  rw [show (0 : Int) = ((0 : Nat) : Int) from rfl, zero_l0 r k 0 c r _ (by simp) hr hc (by omega) (by omega) hk]
  simp
theorem zeros_up2 (r c : Nat) : List.replicate r (List.replicate c (0 : Int)) = up2 (List.replicate r (List.replicate c 0)) := by rw [up_zeros, up2_replicate]

/-- The sum of the first k blocks, each times its factor; n bytes. -/
def applyPart (n : Nat) (row : List B) (bs : List (List B)) (k : Nat) : List B := ((row.zip bs).take k).foldl (fun acc p => addS acc p.2 p.1) (List.replicate n 0)
def applyRow (n : Nat) (row : List B) (bs : List (List B)) : List B := (row.zip bs).foldl (fun acc p => addS acc p.2 p.1) (List.replicate n 0)
def applyM (n : Nat) (m : List (List B)) (bs : List (List B)) : List (List B) := m.map fun row => applyRow n row bs
/-- The result after i rows. -/
def applyUpto (n : Nat) (m : List (List B)) (bs : List (List B)) (i : Nat) : List (List B) := (m.take i).map (fun row => applyRow n row bs) ++ List.replicate (m.length - i) (List.replicate n 0)
theorem applyPart_zero (n : Nat) (row : List B) (bs : List (List B)) : applyPart n row bs 0 = List.replicate n 0 := rfl
theorem applyPart_all (n : Nat) (row : List B) (bs : List (List B)) (k : Nat) (h : row.length ≤ k) : applyPart n row bs k = applyRow n row bs := by
  unfold applyPart applyRow
  rw [List.take_of_length_le (by simp; omega)]
theorem applyPart_length (n : Nat) (row : List B) (bs : List (List B)) (hb : ∀ b ∈ bs, b.length = n) (k : Nat) : (applyPart n row bs k).length = n := by
  have key : ∀ (l : List (B × List B)) (acc : List B), (∀ p ∈ l, p.2.length = n) → acc.length = n → (l.foldl (fun acc p => addS acc p.2 p.1) acc).length = n := by
    intro l
    induction l with
    | nil => intro acc _ h; exact h
    | cons p l ih =>
      intro acc hp h
      exact ih _ (fun q hq => hp q (List.mem_cons_of_mem _ hq)) (by rw [addS_length _ _ _ (by rw [h, hp p List.mem_cons_self]), h])
  exact key _ _ (fun p hp => hb _ (List.of_mem_zip (List.mem_of_mem_take hp)).2) (by simp)
theorem applyPart_succ (n : Nat) (row : List B) (bs : List (List B)) (k : Nat) (h1 : k < row.length) (h2 : k < bs.length) :
    applyPart n row bs (k + 1) = addS (applyPart n row bs k) (bs.getD k []) (row.getD k 0) := by
  unfold applyPart
  rw [List.take_succ_eq_append_getElem (by simp; omega), List.foldl_append]
  simp [List.getD_eq_getElem?_getD, List.getElem?_eq_getElem h1, List.getElem?_eq_getElem h2]
theorem applyUpto_zero (n : Nat) (m bs : List (List B)) : applyUpto n m bs 0 = List.replicate m.length (List.replicate n 0) := by simp [applyUpto]
theorem applyUpto_all (n : Nat) (m bs : List (List B)) : applyUpto n m bs m.length = applyM n m bs := by simp [applyUpto, applyM]
theorem applyUpto_length (n : Nat) (m bs : List (List B)) (i : Nat) (hi : i ≤ m.length) : (applyUpto n m bs i).length = m.length := by simp [applyUpto]; omega
theorem applyUpto_at (n : Nat) (m bs : List (List B)) (i : Nat) (hi : i < m.length) : (applyUpto n m bs i).set i (List.replicate n 0) = applyUpto n m bs i := by
  unfold applyUpto
  have h1 : ((m.take i).map fun row => applyRow n row bs).length = i := by simp; omega
  rw [List.set_append_right _ _ (by omega), h1, Nat.sub_self, show m.length - i = (m.length - (i + 1)) + 1 by omega, List.replicate_succ, List.set_cons_zero]
theorem applyUpto_succ (n : Nat) (m bs : List (List B)) (i : Nat) (hi : i < m.length) : (applyUpto n m bs i).set i (applyRow n (m.getD i []) bs) = applyUpto n m bs (i + 1) := by
  unfold applyUpto
  have h1 : ((m.take i).map fun row => applyRow n row bs).length = i := by simp; omega
  rw [List.set_append_right _ _ (by omega), h1, Nat.sub_self, show m.length - i = (m.length - (i + 1)) + 1 by omega, List.replicate_succ, List.set_cons_zero,
    List.take_succ_eq_append_getElem hi, List.map_append, List.append_assoc]
  simp [List.getD_eq_getElem?_getD, List.getElem?_eq_getElem hi]
end Go.Proofs.Ytpkghpljgjlmjaa.K
/- matrix.Apply: the walk. -/
namespace Go.Proofs.Ytpkghpljgjlmjaa.K
open Go.RowKit Go.Proofs.YtpkghpljgjlmjaaW.PrintWords Go.Proofs.YtpkghpljgjlmjaaW.PrintLast Go.Proofs.YtpkghpljgjlmjaaW.PrintMore Kin
set_option linter.unusedVariables false

theorem enters65 (args : Array Value) (w : World) : (callFunc 65 args).run Try.prog w = .ok (.enter 65 args) w := by
  go_simp
/-- 'len(b) != n', n a captured variable. -/
theorem apply1_calls (n : Nat) (hn : n ≤ 9223372036854775807) (a : Addr) (A : Option Addr) (c : Nat) (x : List Int) (w : World) (hc : w.cell? a = some (.int .i64 (n : Int))) (hx : x.length ≤ 9223372036854775807) :
    Calls Try.prog 65 #[.slice A x.length c, .pointer (some a)] w fun e w' => e = .returned (.bool (decide (x.length ≠ n))) ∧ w = w' := by
  by_cases h : x.length = n
  · have h1 : ((x.length : Int) != (n : Int)) = false := by rw [bne_eq_false_iff_eq]; omega
    have h2 : decide (x.length ≠ n) = false := by simp [h]
    have H := Aside0.mk h2
    clear h h2
    go_enter Try.func65, Try.ntmps65
    go_wp2
    go_ret
    exact ⟨by rw [H.out]; rfl, rfl⟩
  · have h1 : ((x.length : Int) != (n : Int)) = true := by rw [bne_iff_ne]; omega
    have h2 : decide (x.length ≠ n) = true := by simp [h]
    have H := Aside0.mk h2
    clear h h2
    go_enter Try.func65, Try.ntmps65
    go_wp2
    go_ret
    exact ⟨by rw [H.out]; rfl, rfl⟩
theorem tests65 (n : Nat) (hn : n ≤ 9223372036854775807) (a : Addr) (w : World) (hc : w.cell? a = some (.int .i64 (n : Int))) : Tests w 65 (.pointer (some a)) (fun x => decide (x.length ≠ n)) :=
  ⟨enters65, fun A c x hx _ => apply1_calls n hn a A c x w hc hx.2.1⟩
theorem colsN_le {w : World} {A : Option Addr} {l : List (List Int)} (h : Kd.C (Kd.slice 5 (Kd.int .u8)) w A l.length l) : colsN l ≤ 9223372036854775807 := by
  unfold colsN
  cases l with
  | nil => simp
  | cons x l =>
    obtain ⟨ad, A1, c1, _, _, _, hi⟩ := at_L1 h 0 (by omega) (by simp)
    exact hi.2.1

set_option maxRecDepth 100000 in
set_option maxHeartbeats 1000000 in
/-- m is no matrix, or there are not as many blocks as columns. -/
theorem apply_bad1 (A0 A1 : Option Addr) (c0 c1 : Nat) (l0 l1 : List (List Int)) (w : World) (hr0 : Kd.C (Kd.slice 5 (Kd.int .u8)) w A0 l0.length l0) (hc0 : l0.length ≤ c0) (hb : validB l0 = false ∨ l1.length ≠ colsN l0) (hn : l1.length ≤ 9223372036854775807) :
    Calls Try.prog 32 #[.slice A0 l0.length c0, .slice A1 l1.length c1] w fun e w' => e = .returned (.tuple #[.slice none 0 0, .int .i64 1]) ∧ Below w.heap.size w w' := by
  have HR0 := Aside0.mk hr0
  have HC0 := Aside0.mk hc0
  have hcl := colsN_le hr0
  clear hr0 hc0
  cases hv : validB l0 with
  | false =>
    have HV := Aside0.mk (show matrix_Valid.f l0 = some false by rw [matrix_Valid.f, hv])
    clear hv hb
    go_enter Try.func32, Try.ntmps32
    go_wp2_with (first | (go_at_call 17; (with_reducible refine (matrix_Valid.calls _ _ l0 _ _ HR0.out HC0.out HV.out).mono ?_); rintro e w1 ⟨rfl, hb⟩; have HB := Aside0.mk hb; clear hb))
    go_ret2
    exact ⟨rfl, HB.out⟩
  | true =>
    have HV := Aside0.mk (show matrix_Valid.f l0 = some true by rw [matrix_Valid.f, hv])
    have hne : ((l1.length : Int) != (colsN l0 : Int)) = true := by
      rw [bne_iff_ne]
      rcases hb with h | h
      · rw [hv] at h; cases h
      · omega
    have HF := Aside0.mk (columns_eq l0)
    clear hv hb
    go_enter Try.func32, Try.ntmps32
    go_wp2_with (first | (go_at_call 17; (with_reducible refine (matrix_Valid.calls _ _ l0 _ _ HR0.out HC0.out HV.out).mono ?_); rintro e w1 ⟨rfl, hb⟩; have HB := Aside0.mk hb; clear hb) | (go_at_call 56; (with_reducible refine (matrix_columns.calls _ _ l0 _ _ (Kd.C_below HR0.out HB.out) HC0.out HF.out).mono ?_); rintro e w' ⟨rfl, ⟨n1, rfl⟩⟩))
    go_ret2
    exact ⟨rfl, pw_below_drewN HB.out _⟩

theorem rd_L1_up2 (m : List (List B)) (i : Nat) : rd_L1 (up2 m) (i : Int) = up (m.getD i []) := by
  simp only [rd_L1, up2, Int.toNat_natCast, List.getD_eq_getElem?_getD, List.getElem?_map]
  cases m[i]? <;> rfl
theorem getD_up2 (m : List (List B)) (i : Nat) : (up2 m).getD i [] = up (m.getD i []) := by
  have := rd_L1_up2 m i
  simpa [rd_L1] using this
theorem getD_mem {α : Type} {l : List (List α)} {i : Nat} (h : i < l.length) : l.getD i [] ∈ l := by
  rw [List.getD_eq_getElem?_getD, List.getElem?_eq_getElem h]
  exact List.getElem_mem h
theorem valid_len {α : Type} {l : List (List α)} (hv : validB l = true) {x : List α} (hx : x ∈ l) : x.length = colsN l := by
  unfold validB at hv
  simp only [Bool.and_eq_true, List.all_eq_true, decide_eq_true_eq] at hv
  exact hv.2.2 x hx
theorem applyUpto_getD (n : Nat) (m bs : List (List B)) (i : Nat) (x : List B) (hi : i < m.length) : ((applyUpto n m bs i).set i x).getD i [] = x := by
  rw [List.getD_eq_getElem?_getD, List.getElem?_set_self (by rw [applyUpto_length _ _ _ _ (by omega)]; exact hi)]
  rfl
set_option maxRecDepth 100000 in
set_option maxHeartbeats 4000000 in
theorem apply_main (A0 A1 : Option Addr) (c0 c1 : Nat) (l0 l1 : List (List Int)) (r1 : List (List Int)) (r2 : Int) (w : World) (hr0 : Kd.C (Kd.slice 5 (Kd.int .u8)) w A0 l0.length l0) (hc0 : l0.length ≤ c0) (hr1 : Kd.C (Kd.slice 5 (Kd.int .u8)) w A1 l1.length l1) (hc1 : l1.length ≤ c1)
    (hv : validB l0 = true) (hl : l1.length = colsN l0)
    (hres : (l1.any (fun x => !decide (x.length = colsN l1)) = true ∧ r1 = [] ∧ r2 = 1) ∨ (l1.any (fun x => !decide (x.length = colsN l1)) = false ∧ ∃ M Bs, l0 = up2 M ∧ l1 = up2 Bs ∧ r1 = up2 (applyM (colsN Bs) M Bs) ∧ r2 = 0 ∧ colsN Bs ≤ 140737488351232)) :
    Calls Try.prog 32 #[.slice A0 l0.length c0, .slice A1 l1.length c1] w fun e w' => ∃ v0_ : Value, e = .returned (.tuple #[v0_, .int .i64 r2]) ∧ Kd.S (Kd.slice 5 (Kd.int .u8)) 34 w' w.heap.size (fun _ => True) v0_ r1 ∧ Below w.heap.size w w' := by
  have hmf : ∀ (fn : Fn) (first cap : Array Value) (w : World), (Instr.makeFunc fn first cap).run Try.prog w = .ok (.func fn first cap) w := fun _ _ _ _ => rfl
  have HR0 := Aside0.mk hr0
  have HC0 := Aside0.mk hc0
  have HR1 := Aside0.mk hr1
  have HC1 := Aside0.mk hc1
  have hcl := colsN_le hr0
  have hcl1 := colsN_le hr1
  have hn := hr1.2.1
  have HV := Aside0.mk (show matrix_Valid.f l0 = some true by rw [matrix_Valid.f, hv])
  have hne : ((l1.length : Int) != (colsN l0 : Int)) = false := by rw [bne_eq_false_iff_eq]; omega
  have HF := Aside0.mk (columns_eq l0)
  have HRES := Aside0.mk hres
  have HVV := Aside0.mk hv
  have HLL := Aside0.mk hl
  clear hr0 hc0 hr1 hc1 hv hl hres
  go_enter Try.func32, Try.ntmps32
  go_upto_if 24 with (first | (go_at_call 17; (with_reducible refine (matrix_Valid.calls _ _ l0 _ _ HR0.out HC0.out HV.out).mono ?_); rintro e w1 ⟨rfl, hb⟩; have HB := Aside0.mk hb; clear hb) | (go_at_call 56; (with_reducible refine (matrix_columns.calls _ _ l0 _ _ (Kd.C_below HR0.out HB.out) HC0.out HF.out).mono ?_); rintro e w' ⟨rfl, ⟨n1, rfl⟩⟩) | ((with_reducible refine gate_dst (N := 6) rfl ?_); refine box_event rfl (N := 6) rfl (cs := #[.int .i64 0]) (t := 3) ?hrun ?_; (case hrun => first | (go_simp; done) | (go_simp; rfl)); intro g hg w2 hb2 hB2; have hx2 : w2.cell? ⟨g, 0, none⟩ = some (.int .i64 0) := (by rw [blk_cell hb2]; rfl); have hf2 := blk_frozen hb2 0; have HB2 := Aside0.mk (below_step (pw_below_drewN HB.out n1) hB2); have HG := Aside0.mk (show w.heap.size ≤ g by rw [hg]; exact HB.out.size); clear hg hb2 hB2))
  go_cut [4] (fun v4 wc => v4 = .slice none 0 0 ∧ wc.cell? ⟨g, 0, none⟩ = some (.int .i64 (colsN l1 : Int)) ∧ Aside0 (Below w.heap.size w wc))
  case first =>
    by_cases hpos : 0 < l1.length
    · have hq : colsN l1 = (rd_L1 l1 0).length := by
        unfold colsN rd_L1
        cases l1 with
        | nil => simp at hpos
        | cons x l => rfl
      rw [show (decide (0 < l1.length)) = true from decide_eq_true hpos]
      obtain ⟨ad, A2, c2, e, hx, hlx, hix⟩ := at_L1 HR1.out 0 (by omega) (by omega)
      subst e
      rw [show ((0 : Int)).toNat = 0 from rfl, Addr.add_zero'] at hx
      have hbx := World.block_lt_of_cell? w _ hx
      have hxg : ad.block ≠ g := by have := HG.out; omega
      have hx3 : (w2.setCell ⟨g, 0, none⟩ (.int .i64 0)).cell? ad = some (.slice A2 (rd_L1 l1 0).length c2) := ((HB2.out.setCell HG.out _).cell hbx).trans hx
      have HQ := Aside0.mk hq
      clear hq hx
      go_wp2
      go_meet
      exact ⟨rfl, by rw [HQ.out]; go_simp, ⟨(HB2.out.setCell HG.out _).setCell HG.out _⟩⟩
    · have hq : colsN l1 = 0 := by
        unfold colsN
        cases l1 with
        | nil => rfl
        | cons x l => simp at hpos
      have HQ := Aside0.mk hq
      clear hq
      rw [show (decide (0 < l1.length)) = false from decide_eq_false hpos]
      clear hpos
      go_wp2
      go_meet
      exact ⟨rfl, by rw [HQ.out]; go_simp, ⟨HB2.out.setCell HG.out _⟩⟩
  case rest =>
    obtain ⟨rfl, hcell, hBc⟩ := hcut
    have HCF := Aside0.mk (containsFunc_calls A1 c1 l1 65 ⟨g, 0, none⟩ (fun x => decide (x.length ≠ colsN l1)) wc (Kd.C_below HR1.out hBc.out) (tests65 _ hcl1 _ _ hcell))
    rcases HRES.out with ⟨hany, rfl, rfl⟩ | ⟨hany, M, Bs, rfl, rfl, rfl, rfl, hlim⟩
    · rw [show (l1.any fun x => decide (x.length ≠ colsN l1)) = true by simpa using hany] at HCF
      clear hany
      go_wp2_with (first | (go_at_call 58; (with_reducible refine HCF.out.mono ?_); rintro e w' ⟨rfl, rfl⟩))
      go_ret2
      exact ⟨_, rfl, Kd.S_nil _ _ _ _ _, hBc.out⟩
    · rw [show ((up2 Bs).any fun x => decide (x.length ≠ colsN (up2 Bs))) = false by simpa using hany] at HCF
      have hblen : ∀ b ∈ Bs, b.length = colsN Bs := by
        intro b hb
        have := List.any_eq_false.1 hany (up b) (List.mem_map_of_mem hb)
        simpa [up_length, colsN_up2] using this
      have HBL := Aside0.mk hblen
      have HZ := Aside0.mk (zero_eq (up2 M).length (colsN (up2 Bs)) (by have := HVV.out; unfold validB at this; simp at this; omega) (by rw [colsN_up2]; omega) (k := (up2 M).length + 1) (by omega))
      clear hany hblen
      go_wp2_with (first | (go_at_call 58; (with_reducible refine HCF.out.mono ?_); rintro e w' ⟨rfl, rfl⟩) | (go_at_call 64; (with_reducible refine (matrix_zero.calls _ _ _ _ _ HZ.out).mono ?_); rintro e w3 ⟨v3, rfl, hS3, hb3⟩; have HS3 := Aside0.mk (Kd.S_lower hS3 (below_size hBc.out)); have HB3 := Aside0.mk (below_step hBc.out hb3); clear hS3 hb3))
      obtain ⟨Av, cv, ev⟩ := Kd.S_slice HS3.out
      rw [List.length_replicate] at ev
      subst ev
      rw [zeros_up2, colsN_up2] at HS3
      generalize hN : colsN Bs = N at HS3 hlim
      have HN := Aside0.mk hN
      have HLIM := Aside0.mk hlim
      have hlenM : (up2 M).length ≤ 64 := by have := HVV.out; unfold validB at this; simp at this; omega
      clear hN hlim
      go_loopw [38] (fun v38 wr => ∃ (i : Nat), i ≤ (up2 M).length ∧ v38 = .int .i64 (i : Int) ∧ Aside0 (Kd.S D 34 wr w.heap.size (fun _ => True) (.slice Av (up2 M).length cv) (up2 (applyUpto N M Bs i)) ∧ Below w.heap.size w wr)) (fun v38 _ => (up2 M).length - (intOf v38).toNat)
      case atStart => exact ⟨0, by omega, rfl, ⟨by rw [applyUpto_zero, ← up2_length M]; exact HS3.out, HB3.out⟩⟩
      case round =>
        obtain ⟨i, hi, rfl, HA⟩ := hrel
        by_cases hlt : i < (up2 M).length
        · obtain ⟨ad0, A2, c2, e0, hx0, hl0, hi0⟩ := at_L1 HR0.out (i : Int) (by omega) (by omega)
          subst e0
          rw [Int.toNat_natCast] at hx0
          replace hx0 := (HA.out.2.cell (World.block_lt_of_cell? w _ hx0)).trans hx0
          rw [rd_L1_up2] at hx0 hl0 hi0
          have hrl := valid_len (by rw [← validB_up2]; exact HVV.out) (getD_mem (l := M) (i := i) (by rw [up2_length] at hlt; exact hlt))
          generalize hrow : M.getD i [] = r at hx0 hl0 hi0 hrl
          have HROW := Aside0.mk hrow
          have HC2 := Aside0.mk hi0
          have HRL := Aside0.mk hrl
          have hrl2 := hi0.2.1
          clear hrow hi0 hl0 hrl
          go_wp2
          obtain ⟨wo, rfl⟩ : ∃ wo : World, wo = wr := ⟨_, rfl⟩
          go_loopw [45] (fun v45 wr => ∃ (k : Nat), k ≤ (up r).length ∧ v45 = .int .i64 (k : Int) ∧ Aside0 (Kd.S D 34 wr w.heap.size (fun _ => True) (.slice Av (up2 M).length cv) (up2 ((applyUpto N M Bs i).set i (applyPart N r Bs k))) ∧ Below w.heap.size w wr)) (fun v45 _ => (up r).length - (intOf v45).toNat)
          case atStart => exact ⟨0, by omega, rfl, ⟨by rw [applyPart_zero, applyUpto_at _ _ _ _ (by rw [up2_length] at hlt; exact hlt)]; exact HA.out.1, HA.out.2⟩⟩
          case round =>
            obtain ⟨k, hk, rfl, HA2⟩ := hrel
            by_cases hlt2 : k < (up r).length
            · have hkb : k < (up2 Bs).length := by have := HLL.out; rw [colsN_up2] at this; rw [up_length] at hlt2; have := HRL.out; omega
              obtain ⟨ad1, A3, c3, e1, hx1, hl1, hi1⟩ := at_L1 HR1.out (k : Int) (by omega) (by omega)
              subst e1
              rw [Int.toNat_natCast] at hx1
              rw [rd_L1_up2] at hx1 hl1 hi1
              obtain ⟨adr, er, hxr⟩ := Kd.at_int HC2.out (k : Int) (by omega) (by omega)
              subst er
              rw [Int.toNat_natCast, getD_up] at hxr
              obtain ⟨gv, cap, evv, hg1, hg2, _⟩ := Kd.S_form HA2.out.1 (by rw [up2_length, List.length_set, applyUpto_length _ _ _ _ (by rw [up2_length] at hi; exact hi)]; rw [up2_length] at hlt; omega)
              injection evv with ea en ec
              clear en ec
              subst ea
              obtain ⟨_, ce, hcl3, hM3, hcc3, hfr3, _, _⟩ := Kd.S_elem HA2.out.1 [] (i : Int) (by omega) (by omega)
              obtain ⟨ve, rfl, ge⟩ := hM3
              have hxo := hcc3 0 _ rfl
              have hfo := hfr3 0
              rw [show (i : Int).toNat * (D).sz + 0 = i from by rw [Int.toNat_natCast]; show i * 1 + 0 = i; omega] at hxo hfo
              rw [Int.toNat_natCast, getD_up2, applyUpto_getD _ _ _ _ _ (by rw [up2_length] at hlt; exact hlt)] at ge
              obtain ⟨Ao, co, rfl⟩ := Kd.R_slice ge
              obtain ⟨_, hoc, hoR⟩ := Kd.R_reads' ge
              clear hcc3 hfr3 hcl3 ge
              have hf := Aside0.mk (muladd_up (applyPart N r Bs k) (Bs.getD k []) (r.getD k 0) (by rw [applyPart_length N r Bs (by rw [← HN.out]; exact HBL.out) k, HBL.out _ (getD_mem (by rw [up2_length] at hkb; exact hkb)), HN.out]) (by rw [applyPart_length N r Bs (by rw [← HN.out]; exact HBL.out) k]; exact HLIM.out) (k := N + 1) (by rw [applyPart_length N r Bs (by rw [← HN.out]; exact HBL.out) k]; omega))
              replace hx1 := (HA2.out.2.cell (World.block_lt_of_cell? w _ hx1)).trans hx1
              replace hxr := (HA2.out.2.cell (World.block_lt_of_cell? w _ hxr)).trans hxr
              have HI1 := Aside0.mk (Kd.C_below hi1 HA2.out.2)
              have HL1 := Aside0.mk hl1
              have HOR := Aside0.mk hoR
              have HOC := Aside0.mk hoc
              have hb0 := World.block_lt_of_cell? wr _ hx1
              have i0 : (0 : Int) ≤ (i : Int) := by omega
              have i1 : (i : Int) < ((up2 M).length : Int) := by omega
              have k0 : (0 : Int) ≤ (k : Int) := by omega
              have k1 : (k : Int) < ((up2 Bs).length : Int) := by omega
              clear hi1 hl1 hoR hoc hx0
              generalize hpk : applyPart N r Bs k = pk at hxo hf HOR HOC
              generalize hbk : Bs.getD k [] = bk at hx1 hf HI1 HL1
              generalize hrk : r.getD k 0 = rk at hxr hf
              have HPK := Aside0.mk hpk
              have HBK := Aside0.mk hbk
              have HRK := Aside0.mk hrk
              clear hpk hbk hrk
              go_wp2
              go_region_with
                (first | (go_at_call 66; refine (gf256_MulAdd.calls (N + 1) _ _ (up pk) _ _ (up bk) _ _ _ _ (by exact Kd.C_drew HOR.out) HOC.out (by exact Kd.C_drew HI1.out) HL1.out hf.out).mono ?_; rintro e w4 ⟨v4, rfl, hv4, hb4⟩; have hx4 : w4.cell? ⟨gv, i, none⟩ = some (.slice Ao (up pk).length co) := (hb4.cell hg2).trans hxo; have hf4 : w4.frozen? ⟨gv, i, none⟩ = false := (hb4.frozen hg2).trans hfo; have hx5 : w4.cell? (ad1.add k) = some (.slice A3 (up bk).length c3) := (hb4.cell hb0).trans hx1; have HV4 := Aside0.mk hv4; have HB4 := Aside0.mk hb4; obtain ⟨A4, c4, rfl⟩ := Kd.R_slice HV4.out; clear hv4 hb4))
              all_goals
                have hBw := (HA2.out.2.drew).size
                have hP := S_put_fresh (Kd.S_drew HA2.out.1) HB4.out HV4.out hBw hg2 (i : Int) (by omega) (by omega)
                have hE : applyPart N r Bs (k + 1) = addS pk bk rk := by rw [← HPK.out, ← HBK.out, ← HRK.out]; exact applyPart_succ N r Bs k (by rw [up_length] at hlt2; exact hlt2) (by rw [up2_length] at hkb; exact hkb)
                rw [Int.toNat_natCast, set_up2, List.set_set] at hP
                have HP := Aside0.mk hP
                have HE := Aside0.mk hE
                clear hE
                have HBN := Aside0.mk ((below_step (HA2.out.2.drew) HB4.out).setCell (p := ⟨gv, i, none⟩) hg1 (.slice A4 (up (addS pk bk rk)).length c4))
                clear hP hBw
                go_wp2
                go_roundw
                case rel => exact ⟨k + 1, by omega, by go_num, ⟨by rw [HE.out]; exact HP.out, HBN.out⟩⟩
                case measure => simp [intOf]; omega
            · obtain rfl : k = (up r).length := by omega
              have hU := HA2.out.1
              rw [applyPart_all N r Bs _ (by rw [up_length]; omega), ← HROW.out, applyUpto_succ _ _ _ _ (by rw [up2_length] at hlt; exact hlt)] at hU
              have HU := Aside0.mk hU
              clear hU
              go_wp2
              go_roundw
              case rel => exact ⟨i + 1, by omega, by go_num, ⟨HU.out, HA2.out.2⟩⟩
              case measure => simp [intOf]; omega
        · obtain rfl : i = (up2 M).length := by omega
          have hU := HA.out.1
          rw [up2_length M, applyUpto_all, ← up2_length M] at hU
          have HU := Aside0.mk hU
          clear hU
          go_wp2
          go_ret2
          exact ⟨_, rfl, by rw [HN.out]; exact HU.out, HA.out.2⟩

/-- matrix.Apply, of bytes, blocks not too long. -/
def matrix_Apply.f (l0 : List (List Int)) (l1 : List (List Int)) : Option ((List (List Int)) × Int) :=
  if validB l0 && decide (l1.length = colsN l0) then
    if l1.any (fun x => !decide (x.length = colsN l1)) then some ([], 1)
    else if l0.all (fun x => x.all isB) && (l1.all (fun x => x.all isB) && decide (colsN l1 ≤ 140737488351232)) then some (up2 (applyM (colsN (toB2 l1)) (toB2 l0) (toB2 l1)), 0) else none
  else if l1.length ≤ 9223372036854775807 then some ([], 1) else none
theorem matrix_Apply.calls (A0 : Option Addr) (c0 : Nat) (l0 : List (List Int)) (A1 : Option Addr) (c1 : Nat) (l1 : List (List Int)) (r1 : List (List Int)) (r2 : Int) (w : World) (hr0 : Kd.C (Kd.slice 5 (Kd.int .u8)) w A0 l0.length l0) (hc0 : l0.length ≤ c0) (hr1 : Kd.C (Kd.slice 5 (Kd.int .u8)) w A1 l1.length l1) (hc1 : l1.length ≤ c1) (h : matrix_Apply.f l0 l1 = some (r1, r2)) :
    Calls Try.prog 32 #[.slice A0 l0.length c0, .slice A1 l1.length c1] w fun e w' => ∃ v0_ : Value, e = .returned (.tuple #[v0_, .int .i64 r2]) ∧ Kd.S (Kd.slice 5 (Kd.int .u8)) 34 w' w.heap.size (fun _ => True) v0_ r1 ∧ Below w.heap.size w w' := by
  unfold matrix_Apply.f at h
  split at h
  · rename_i hc
    simp only [Bool.and_eq_true, decide_eq_true_eq] at hc
    refine apply_main A0 A1 c0 c1 l0 l1 r1 r2 w hr0 hc0 hr1 hc1 hc.1 hc.2 ?_
    split at h
    · rename_i ha
      injection h with h
      injection h with h1 h2
      exact .inl ⟨ha, h1.symm, h2.symm⟩
    · rename_i ha
      split at h
      · rename_i hb
        simp only [Bool.and_eq_true, decide_eq_true_eq, List.all_eq_true] at hb
        injection h with h
        injection h with h1 h2
        obtain ⟨M, rfl⟩ := exists_up2 hb.1
        obtain ⟨Bs, rfl⟩ := exists_up2 hb.2.1
        rw [toB2_up2, toB2_up2] at h1
        have hlim := hb.2.2
        rw [colsN_up2] at hlim
        exact .inr ⟨by simpa using ha, M, Bs, rfl, rfl, h1.symm, h2.symm, hlim⟩
      · cases h
  · rename_i hc
    split at h
    · rename_i hn
      injection h with h
      injection h with h1 h2
      subst h1 h2
      refine (apply_bad1 A0 A1 c0 c1 l0 l1 w hr0 hc0 ?_ hn).mono ?_
      · simp only [Bool.and_eq_true, decide_eq_true_eq] at hc
        by_cases hv : validB l0 = true
        · exact .inr fun e => hc ⟨hv, e⟩
        · exact .inl (by simpa using hv)
      · rintro e w' ⟨rfl, hb⟩
        exact ⟨_, rfl, Kd.S_nil _ _ _ _ _, hb⟩
    · cases h
theorem apply_up (M Bs : List (List B)) (hv : validB M = true) (hl : Bs.length = colsN M) (hb : ∀ b ∈ Bs, b.length = colsN Bs) (hlim : colsN Bs ≤ 140737488351232) :
    matrix_Apply.f (up2 M) (up2 Bs) = some (up2 (applyM (colsN Bs) M Bs), 0) := by
  have h1 : (up2 Bs).any (fun x => !decide (x.length = colsN (up2 Bs))) = false := by
    rw [List.any_eq_false]
    intro x hx
    obtain ⟨y, hy, rfl⟩ := List.mem_map.1 hx
    simp [up_length, colsN_up2, hb y hy]
  have h2 : ∀ m : List (List B), (up2 m).all (fun x => x.all isB) = true := by
    intro m
    rw [List.all_eq_true]
    intro x hx
    obtain ⟨y, hy, rfl⟩ := List.mem_map.1 hx
    simp [up, isB_b2i]
  unfold matrix_Apply.f
  rw [if_pos (by rw [validB_up2, hv, up2_length, colsN_up2, hl]; simp), h1, if_neg (by simp), if_pos (by rw [h2, h2, colsN_up2]; simp [hlim]), toB2_up2, toB2_up2]
end Go.Proofs.Ytpkghpljgjlmjaa.K
/- A byte written into a row of rows. -/
namespace Go.Proofs.Ytpkghpljgjlmjaa.K
open Go.RowKit Go.Proofs.YtpkghpljgjlmjaaW.PrintWords Go.Proofs.YtpkghpljgjlmjaaW.PrintLast Go.Proofs.YtpkghpljgjlmjaaW.PrintMore
set_option linter.unusedVariables false
theorem S_poke {w : World} {base n c : Nat} {ad : Addr} {xs : List (List Int)} (h : Kd.S D 34 w base (fun _ => True) (.slice (some ad) n c) xs) (i k : Nat) (hi : i < n) (hk : k < (xs.getD i []).length) :
    ∃ go co, w.cell? (ad.add i) = some (.slice (some ⟨go, 0, none⟩) (xs.getD i []).length co) ∧ base ≤ go ∧ go < w.heap.size ∧ (∃ u, w.cell? ⟨go, k, none⟩ = some u) ∧ w.frozen? ⟨go, k, none⟩ = false ∧ ∀ x : Int, Kd.S D 34 (w.setCell ⟨go, k, none⟩ (.int .u8 x)) base (fun _ => True) (.slice (some ad) n c) (xs.set i ((xs.getD i []).set k x)) := by
  obtain ⟨oki, ce, hcl, hM, hcc, hok, hbk⟩ := Kd.S_borrow h [] (i : Int) (by omega) (by omega)
  obtain ⟨ve, rfl, ge⟩ := hM
  have hv := hcc 0 _ rfl
  rw [Nat.add_zero, show (D).sz = 1 from rfl, Nat.mul_one, Int.toNat_natCast] at hv
  rw [Int.toNat_natCast] at ge hbk
  obtain ⟨go, co, rfl, gb, gl, cl, hg⟩ := Kd.R_form ge (by omega)
  obtain ⟨hx, hf⟩ := Kd.R_celln 0 ge (k : Int) (by omega) (by omega)
  rw [Int.toNat_natCast] at hx hf
  refine ⟨go, co, hv, gb, gl, ⟨_, hx⟩, hf, fun x => ?_⟩
  have hP := Kd.R_putg ge (k : Int) x
  rw [Int.toNat_natCast] at hP
  exact hbk hP.2 (fun k' e => by injection e with e; subst e; exact ge.1 _ rfl) (Kd.M_row hP.1)
end Go.Proofs.Ytpkghpljgjlmjaa.K
/- The walk of fill of package matrix. -/
namespace Go.Proofs.Ytpkghpljgjlmjaa.K
open Go.RowKit Go.Proofs.YtpkghpljgjlmjaaW.PrintWords Go.Proofs.YtpkghpljgjlmjaaW.PrintLast Go.Proofs.YtpkghpljgjlmjaaW.PrintMore Kin
set_option linter.unusedVariables false
set_option linter.unusedSimpArgs false
def fillR (rows cols : Nat) (el : Nat → Nat → B) (i k a : Nat) : List B := (List.range cols).map fun b => if a < i ∨ (a = i ∧ b < k) then el a b else 0
def fillM (rows cols : Nat) (el : Nat → Nat → B) (i k : Nat) : List (List B) := (List.range rows).map fun a => fillR rows cols el i k a
theorem fillR_length (rows cols : Nat) (el : Nat → Nat → B) (i k a : Nat) : (fillR rows cols el i k a).length = cols := by simp [fillR]
theorem fillM_length (rows cols : Nat) (el : Nat → Nat → B) (i k : Nat) : (fillM rows cols el i k).length = rows := by simp [fillM]
theorem fillM_get (rows cols : Nat) (el : Nat → Nat → B) (i k a : Nat) (ha : a < rows) : (fillM rows cols el i k).getD a [] = fillR rows cols el i k a := by
  simp [fillM, List.getD_eq_getElem?_getD, List.getElem?_map, List.getElem?_range ha]
theorem fillM_zero (rows cols : Nat) (el : Nat → Nat → B) : fillM rows cols el 0 0 = List.replicate rows (List.replicate cols 0) := by
  apply List.ext_getElem
  · simp [fillM]
  · intro n h1 h2
    simp only [fillM, fillR, List.getElem_map, List.getElem_range, List.getElem_replicate]
    apply List.ext_getElem
    · simp
    · intro m h3 h4
      simp
theorem fillM_next (rows cols : Nat) (el : Nat → Nat → B) (i : Nat) : fillM rows cols el i cols = fillM rows cols el (i + 1) 0 := by
  unfold fillM
  apply List.map_congr_left
  intro a _
  unfold fillR
  apply List.map_congr_left
  intro b hb
  rw [List.mem_range] at hb
  by_cases h : a < i ∨ (a = i ∧ b < cols)
  · rw [if_pos h, if_pos (by omega)]
  · rw [if_neg h, if_neg (by omega)]
theorem fillM_step (rows cols : Nat) (el : Nat → Nat → B) (i k : Nat) (hi : i < rows) (hk : k < cols) : (fillM rows cols el i k).set i (((fillM rows cols el i k).getD i []).set k (el i k)) = fillM rows cols el i (k + 1) := by
  rw [fillM_get _ _ _ _ _ _ hi]
  apply List.ext_getElem
  · simp [fillM]
  · intro a h1 h2
    rw [List.getElem_set]
    simp only [fillM, List.getElem_map, List.getElem_range]
    by_cases ha : i = a
    · subst ha
      rw [if_pos rfl]
      apply List.ext_getElem
      · simp [fillR]
      · intro b h3 h4
        rw [List.getElem_set]
        simp only [fillR, List.getElem_map, List.getElem_range]
        by_cases hb : k = b
        · subst hb
          rw [if_pos rfl, if_pos (.inr ⟨trivial, by omega⟩)]
        · rw [if_neg hb]
          congr 1
          simp only [Nat.lt_irrefl, false_or, true_and, eq_iff_iff]
          omega
    · rw [if_neg ha]
      unfold fillR
      apply List.map_congr_left
      intro b _
      by_cases h : a < i ∨ (a = i ∧ b < k)
      · rw [if_pos h, if_pos (by omega)]
      · rw [if_neg h, if_neg (by omega)]
theorem fillM_all (rows cols : Nat) (el : Nat → Nat → B) : fillM rows cols el rows 0 = (List.range rows).map fun a => (List.range cols).map fun b => el a b := by
  unfold fillM fillR
  apply List.map_congr_left
  intro a ha
  rw [List.mem_range] at ha
  apply List.map_congr_left
  intro b _
  rw [if_pos (.inl ha)]
theorem enters77 (args : Array Value) (w : World) : (callFunc 77 args).run Try.prog w = .ok (.enter 77 args) w := by
  go_simp
theorem enters79 (args : Array Value) (w : World) : (callFunc 79 args).run Try.prog w = .ok (.enter 79 args) w := by
  go_simp

set_option maxRecDepth 100000 in
set_option maxHeartbeats 4000000 in
theorem fill77_good (a : Addr) (rows cols : Nat) (el : Nat → Nat → B) (w : World) (hr : rows ≤ 64) (hc : cols ≤ 64)
    (hE : ∀ i k w', Below w.heap.size w w' → i < rows → k < cols → Calls Try.prog 77 #[.int .i64 (i : Int), .int .i64 (k : Int), .pointer (some a)] w' fun e w'' => e = .returned (.int .u8 (b2i (el i k))) ∧ Drawn0 w' w'') :
    Calls Try.prog 76 #[.int .i64 (rows : Int), .int .i64 (cols : Int), .func (Fn.func 77) #[] #[.pointer (some a)]] w fun e w' => ∃ v0_ : Value, e = .returned (.tuple #[v0_, .int .i64 0]) ∧ Kd.S (Kd.slice 5 (Kd.int .u8)) 34 w' w.heap.size (fun _ => True) v0_ (up2 (fillM rows cols el rows 0)) ∧ Below w.heap.size w w' := by
  have HE := Aside0.mk hE
  have HS1 := Aside0.mk (show matrix_size.f (rows : Int) = some true by rw [size_eq, decide_eq_true hr])
  have HS2 := Aside0.mk (show matrix_size.f (cols : Int) = some true by rw [size_eq, decide_eq_true hc])
  have HZ := Aside0.mk (zero_eq rows cols (by omega) (by omega) (k := rows + 1) (by omega))
  have hent : ∀ (args : Array Value) (w : World), (callFunc 77 args).run Try.prog w = .ok (.enter 77 args) w := enters77
  clear hE
  go_enter Try.func76, Try.ntmps76
  go_wp2_with (first | (go_at_call 57; (with_reducible refine (matrix_size.calls (rows : Int) true _ HS1.out).mono ?_); rintro e w1 ⟨rfl, ⟨n1, rfl⟩⟩) | (go_at_call 57; (with_reducible refine (matrix_size.calls (cols : Int) true _ HS2.out).mono ?_); rintro e w2 ⟨rfl, ⟨n2, rfl⟩⟩) | (go_at_call 64; (with_reducible refine (matrix_zero.calls (rows + 1) (rows : Int) (cols : Int) _ _ HZ.out).mono ?_); rintro e w4 ⟨v4, rfl, hv4, hb4⟩; have HB4 := Aside0.mk ((pw_below_drewN (Below.refl w.heap.size w) (n1 + n2)).trans hb4); have HV4 := Aside0.mk hv4; clear hv4 hb4))
  have hv4 := HV4.out
  rw [zeros_up2, ← fillM_zero rows cols el] at hv4
  obtain ⟨A4, c4, e4⟩ := Kd.S_slice hv4
  rw [up2_length, fillM_length] at e4
  clear HV4
  subst e4
  have HV4 := Aside0.mk hv4
  clear hv4
  go_loopw [9, 23] (fun _ v23 wr => ∃ i : Nat, i ≤ rows ∧ v23 = .int .i64 (i : Int) ∧ Aside0 (Kd.S D 34 wr w.heap.size (fun _ => True) (.slice A4 rows c4) (up2 (fillM rows cols el i 0)) ∧ Below w.heap.size w wr)) (fun _ v23 _ => rows - (intOf v23).toNat)
  case atStart => exact ⟨0, by omega, rfl, ⟨HV4.out, HB4.out⟩⟩
  case round =>
    obtain ⟨i, hi, rfl, HA⟩ := hrel
    obtain ⟨wo, rfl⟩ : ∃ wo : World, wo = wr := ⟨_, rfl⟩
    by_cases hi2 : i < rows
    · go_wp2
      go_loopw [10, 27] (fun _ v27 wr => ∃ k : Nat, k ≤ cols ∧ v27 = .int .i64 (k : Int) ∧ Aside0 (Kd.S D 34 wr w.heap.size (fun _ => True) (.slice A4 rows c4) (up2 (fillM rows cols el i k)) ∧ Below w.heap.size w wr)) (fun _ v27 _ => cols - (intOf v27).toNat)
      case atStart => exact ⟨0, by omega, rfl, HA⟩
      case round =>
        clear HA
        obtain ⟨k, hk, rfl, HA⟩ := hrel
        by_cases hk2 : k < cols
        · have hS := HA.out.1
          obtain ⟨ad, A0, c0, e, _, _, _⟩ := at_L1 (n := rows) (by have := (Kd.S_reads' hS).2.2; rwa [up2_length, fillM_length] at this) (i : Int) (by omega) (by omega)
          subst e
          have hg : (fillM rows cols el i k).getD i [] = fillR rows cols el i k i := fillM_get rows cols el i k i hi2
          obtain ⟨go, co, hx, hbo, hgo, ⟨u, hu⟩, hfo, hput⟩ := S_poke hS i k hi2 (by rw [getD_up2, up_length, hg, fillR_length]; exact hk2)
          rw [getD_up2, up_length, hg, fillR_length] at hx
          have HPUT := Aside0.mk hput
          have HB1 := Aside0.mk HA.out.2
          have HBO := Aside0.mk hbo
          have HGO := Aside0.mk hgo
          have i0 : (0 : Int) ≤ (i : Int) := by omega
          have i1 : (i : Int) < (rows : Int) := by omega
          have k0 : (0 : Int) ≤ (k : Int) := by omega
          have k1 : (k : Int) < (cols : Int) := by omega
          clear hS hg hput hbo hgo
          go_wp2
          go_region_with (first | (go_at_call 77; (with_reducible refine (HE.out i k _ (below_drew HB1.out) hi2 hk2).mono ?_); rintro e w5 ⟨rfl, ⟨n1, hn1⟩⟩; subst hn1) | ((with_reducible refine (HE.out i k _ (below_drew HB1.out) hi2 hk2).mono ?_); rintro e w5 ⟨rfl, ⟨n1, hn1⟩⟩; subst hn1))
          all_goals
            have hP := HPUT.out (b2i (el i k))
            rw [getD_up2, set_up, set_up2, fillM_step rows cols el i k hi2 hk2] at hP
            have HP := Aside0.mk (Kd.S_drewN hP (1 + n1))
            have HB2 : Aside0 (Below w.heap.size w ((wr.drewN (1 + n1)).setCell ⟨go, k, none⟩ (.int .u8 (b2i (el i k))))) := ⟨(pw_below_drewN HB1.out (1 + n1)).setCell HBO.out _⟩
            clear hP
            go_wp2
            go_roundw
            case rel => exact ⟨k + 1, by omega, by go_num, ⟨HP.out, HB2.out⟩⟩
            case measure => simp [intOf]; omega
        · obtain rfl : k = cols := by omega
          have HA2 := HA.out
          rw [fillM_next] at HA2
          have HA3 := Aside0.mk HA2
          clear HA2
          go_wp2
          go_roundw
          case rel => exact ⟨i + 1, by omega, by go_num, HA3⟩
          case measure => simp [intOf]; omega
    · obtain rfl : i = rows := by omega
      go_wp2
      go_ret2
      exact ⟨_, rfl, HA.out.1, HA.out.2⟩

set_option maxRecDepth 100000 in
set_option maxHeartbeats 4000000 in
theorem fill79_good  (rows cols : Nat) (el : Nat → Nat → B) (w : World) (hr : rows ≤ 64) (hc : cols ≤ 64)
    (hE : ∀ i k w', Below w.heap.size w w' → i < rows → k < cols → Calls Try.prog 79 #[.int .i64 (i : Int), .int .i64 (k : Int)] w' fun e w'' => e = .returned (.int .u8 (b2i (el i k))) ∧ Drawn0 w' w'') :
    Calls Try.prog 76 #[.int .i64 (rows : Int), .int .i64 (cols : Int), .func (Fn.func 79) #[] #[]] w fun e w' => ∃ v0_ : Value, e = .returned (.tuple #[v0_, .int .i64 0]) ∧ Kd.S (Kd.slice 5 (Kd.int .u8)) 34 w' w.heap.size (fun _ => True) v0_ (up2 (fillM rows cols el rows 0)) ∧ Below w.heap.size w w' := by
  have HE := Aside0.mk hE
  have HS1 := Aside0.mk (show matrix_size.f (rows : Int) = some true by rw [size_eq, decide_eq_true hr])
  have HS2 := Aside0.mk (show matrix_size.f (cols : Int) = some true by rw [size_eq, decide_eq_true hc])
  have HZ := Aside0.mk (zero_eq rows cols (by omega) (by omega) (k := rows + 1) (by omega))
  have hent : ∀ (args : Array Value) (w : World), (callFunc 79 args).run Try.prog w = .ok (.enter 79 args) w := enters79
  clear hE
  go_enter Try.func76, Try.ntmps76
  go_wp2_with (first | (go_at_call 57; (with_reducible refine (matrix_size.calls (rows : Int) true _ HS1.out).mono ?_); rintro e w1 ⟨rfl, ⟨n1, rfl⟩⟩) | (go_at_call 57; (with_reducible refine (matrix_size.calls (cols : Int) true _ HS2.out).mono ?_); rintro e w2 ⟨rfl, ⟨n2, rfl⟩⟩) | (go_at_call 64; (with_reducible refine (matrix_zero.calls (rows + 1) (rows : Int) (cols : Int) _ _ HZ.out).mono ?_); rintro e w4 ⟨v4, rfl, hv4, hb4⟩; have HB4 := Aside0.mk ((pw_below_drewN (Below.refl w.heap.size w) (n1 + n2)).trans hb4); have HV4 := Aside0.mk hv4; clear hv4 hb4))
  have hv4 := HV4.out
  rw [zeros_up2, ← fillM_zero rows cols el] at hv4
  obtain ⟨A4, c4, e4⟩ := Kd.S_slice hv4
  rw [up2_length, fillM_length] at e4
  clear HV4
  subst e4
  have HV4 := Aside0.mk hv4
  clear hv4
  go_loopw [9, 23] (fun _ v23 wr => ∃ i : Nat, i ≤ rows ∧ v23 = .int .i64 (i : Int) ∧ Aside0 (Kd.S D 34 wr w.heap.size (fun _ => True) (.slice A4 rows c4) (up2 (fillM rows cols el i 0)) ∧ Below w.heap.size w wr)) (fun _ v23 _ => rows - (intOf v23).toNat)
  case atStart => exact ⟨0, by omega, rfl, ⟨HV4.out, HB4.out⟩⟩
  case round =>
    obtain ⟨i, hi, rfl, HA⟩ := hrel
    obtain ⟨wo, rfl⟩ : ∃ wo : World, wo = wr := ⟨_, rfl⟩
    by_cases hi2 : i < rows
    · go_wp2
      go_loopw [10, 27] (fun _ v27 wr => ∃ k : Nat, k ≤ cols ∧ v27 = .int .i64 (k : Int) ∧ Aside0 (Kd.S D 34 wr w.heap.size (fun _ => True) (.slice A4 rows c4) (up2 (fillM rows cols el i k)) ∧ Below w.heap.size w wr)) (fun _ v27 _ => cols - (intOf v27).toNat)
      case atStart => exact ⟨0, by omega, rfl, HA⟩
      case round =>
        clear HA
        obtain ⟨k, hk, rfl, HA⟩ := hrel
        by_cases hk2 : k < cols
        · have hS := HA.out.1
          obtain ⟨ad, A0, c0, e, _, _, _⟩ := at_L1 (n := rows) (by have := (Kd.S_reads' hS).2.2; rwa [up2_length, fillM_length] at this) (i : Int) (by omega) (by omega)
          subst e
          have hg : (fillM rows cols el i k).getD i [] = fillR rows cols el i k i := fillM_get rows cols el i k i hi2
          obtain ⟨go, co, hx, hbo, hgo, ⟨u, hu⟩, hfo, hput⟩ := S_poke hS i k hi2 (by rw [getD_up2, up_length, hg, fillR_length]; exact hk2)
          rw [getD_up2, up_length, hg, fillR_length] at hx
          have HPUT := Aside0.mk hput
          have HB1 := Aside0.mk HA.out.2
          have HBO := Aside0.mk hbo
          have HGO := Aside0.mk hgo
          have i0 : (0 : Int) ≤ (i : Int) := by omega
          have i1 : (i : Int) < (rows : Int) := by omega
          have k0 : (0 : Int) ≤ (k : Int) := by omega
          have k1 : (k : Int) < (cols : Int) := by omega
          clear hS hg hput hbo hgo
          go_wp2
          go_region_with (first | (go_at_call 79; (with_reducible refine (HE.out i k _ (below_drew HB1.out) hi2 hk2).mono ?_); rintro e w5 ⟨rfl, ⟨n1, hn1⟩⟩; subst hn1) | ((with_reducible refine (HE.out i k _ (below_drew HB1.out) hi2 hk2).mono ?_); rintro e w5 ⟨rfl, ⟨n1, hn1⟩⟩; subst hn1))
          all_goals
            have hP := HPUT.out (b2i (el i k))
            rw [getD_up2, set_up, set_up2, fillM_step rows cols el i k hi2 hk2] at hP
            have HP := Aside0.mk (Kd.S_drewN hP (1 + n1))
            have HB2 : Aside0 (Below w.heap.size w ((wr.drewN (1 + n1)).setCell ⟨go, k, none⟩ (.int .u8 (b2i (el i k))))) := ⟨(pw_below_drewN HB1.out (1 + n1)).setCell HBO.out _⟩
            clear hP
            go_wp2
            go_roundw
            case rel => exact ⟨k + 1, by omega, by go_num, ⟨HP.out, HB2.out⟩⟩
            case measure => simp [intOf]; omega
        · obtain rfl : k = cols := by omega
          have HA2 := HA.out
          rw [fillM_next] at HA2
          have HA3 := Aside0.mk HA2
          clear HA2
          go_wp2
          go_roundw
          case rel => exact ⟨i + 1, by omega, by go_num, HA3⟩
          case measure => simp [intOf]; omega
    · obtain rfl : i = rows := by omega
      go_wp2
      go_ret2
      exact ⟨_, rfl, HA.out.1, HA.out.2⟩

theorem size_int (a : Int) : matrix_size.f a = some (decide (0 ≤ a ∧ a ≤ 64)) := by
  unfold matrix_size.f
  by_cases h : a ≥ 0
  · rw [if_pos h]
    congr 1
    rw [Bool.eq_iff_iff]
    simp; omega
  · rw [if_neg h]
    congr 1
    symm
    rw [decide_eq_false_iff_not]
    omega
set_option maxRecDepth 100000 in
set_option maxHeartbeats 2000000 in
theorem fill_bad (rows cols : Int) (fv : Value) (w : World) (hb : ¬ ((0 ≤ rows ∧ rows ≤ 64) ∧ (0 ≤ cols ∧ cols ≤ 64))) :
    Calls Try.prog 76 #[.int .i64 rows, .int .i64 cols, fv] w fun e w' => e = .returned (.tuple #[.slice none 0 0, .int .i64 1]) ∧ Drawn0 w w' := by
  by_cases hr : 0 ≤ rows ∧ rows ≤ 64
  · have HS1 := Aside0.mk (show matrix_size.f rows = some true by rw [size_int, decide_eq_true hr])
    have HS2 := Aside0.mk (show matrix_size.f cols = some false by rw [size_int, decide_eq_false (fun h => hb ⟨hr, h⟩)])
    clear hb hr
    go_enter Try.func76, Try.ntmps76
    go_wp2_with (first | (go_at_call 57; (with_reducible refine (matrix_size.calls rows true _ HS1.out).mono ?_); rintro e w1 ⟨rfl, ⟨n1, rfl⟩⟩) | (go_at_call 57; (with_reducible refine (matrix_size.calls cols false _ HS2.out).mono ?_); rintro e w2 ⟨rfl, ⟨n2, rfl⟩⟩))
    go_ret2
    exact ⟨rfl, ⟨⟨_, rfl⟩⟩⟩
  · have HS1 := Aside0.mk (show matrix_size.f rows = some false by rw [size_int, decide_eq_false hr])
    clear hb hr
    go_enter Try.func76, Try.ntmps76
    go_wp2_with (first | (go_at_call 57; (with_reducible refine (matrix_size.calls rows false _ HS1.out).mono ?_); rintro e w1 ⟨rfl, ⟨n1, rfl⟩⟩))
    go_ret2
    exact ⟨rfl, ⟨⟨_, rfl⟩⟩⟩
def cauchyEl (cols r c : Nat) : B := ginv (UInt8.ofNat (cols + r) ^^^ UInt8.ofNat c)
def cauchyM (rows cols : Nat) : List (List B) := (List.range rows).map fun r => (List.range cols).map fun c => cauchyEl cols r c
theorem b2i_ofNat (n : Nat) (h : n < 256) : b2i (UInt8.ofNat n) = (n : Int) := by
  unfold b2i
  rw [UInt8.toNat_ofNat']
  omega
set_option maxRecDepth 100000 in
set_option maxHeartbeats 2000000 in
theorem cauchy1_calls (cols r c : Nat) (a : Addr) (w : World) (hx : w.cell? a = some (.int .i64 (cols : Int))) (h1 : cols ≤ 64) (h2 : r < 64) (h3 : c < 64) :
    Calls Try.prog 77 #[.int .i64 (r : Int), .int .i64 (c : Int), .pointer (some a)] w fun e w' => e = .returned (.int .u8 (b2i (cauchyEl cols r c))) ∧ Drawn0 w w' := by
  have HI := Aside0.mk (inv_b (UInt8.ofNat (cols + r) ^^^ UInt8.ofNat c) (k := 18) (by omega))
  have HX := Aside0.mk (show Go.bits .xor .u8 ((cols : Int) + r) (c : Int) = b2i (UInt8.ofNat (cols + r) ^^^ UInt8.ofNat c) by
    rw [← xor_b2i, b2i_ofNat _ (by omega), b2i_ofNat _ (by omega)]
    rfl)
  have HL := Aside0.mk (show cauchyEl cols r c = ginv (UInt8.ofNat (cols + r) ^^^ UInt8.ofNat c) from rfl)
  generalize (if UInt8.ofNat (cols + r) ^^^ UInt8.ofNat c = 0 then (1 : Int) else 0) = ec at HI
  generalize (UInt8.ofNat (cols + r) ^^^ UInt8.ofNat c) = z at HI HX HL
  go_enter Try.func77, Try.ntmps77
  go_wp2_with (first | (go_at_call 78; rw [HX.out]; (with_reducible refine (gf256_Inv.calls 18 _ _ _ _ HI.out).mono ?_); rintro e w1 ⟨rfl, ⟨n1, rfl⟩⟩))
  go_ret
  exact ⟨by rw [HL.out]; rfl, ⟨⟨_, rfl⟩⟩⟩
def matrix_Cauchy.f (a0 : Int) (a1 : Int) : Option ((List (List Int)) × Int) :=
  if (0 ≤ a0 ∧ a0 ≤ 64) ∧ (0 ≤ a1 ∧ a1 ≤ 64) then some (up2 (cauchyM a0.toNat a1.toNat), 0) else some ([], 1)
set_option maxRecDepth 100000 in
set_option maxHeartbeats 2000000 in
theorem matrix_Cauchy.calls (a0 : Int) (a1 : Int) (r1 : List (List Int)) (r2 : Int) (w : World) (h : matrix_Cauchy.f a0 a1 = some (r1, r2)) :
    Calls Try.prog 49 #[.int .i64 a0, .int .i64 a1] w fun e w' => ∃ v0_ : Value, e = .returned (.tuple #[v0_, .int .i64 r2]) ∧ Kd.S (Kd.slice 5 (Kd.int .u8)) 34 w' w.heap.size (fun _ => True) v0_ r1 ∧ Below w.heap.size w w' := by
  unfold matrix_Cauchy.f at h
  by_cases hb : (0 ≤ a0 ∧ a0 ≤ 64) ∧ (0 ≤ a1 ∧ a1 ≤ 64)
  · rw [if_pos hb] at h
    simp only [Option.some.injEq, Prod.mk.injEq] at h
    obtain ⟨rfl, rfl⟩ := h
    obtain ⟨⟨h0, h1⟩, h2, h3⟩ := hb
    obtain ⟨rows, rfl⟩ := Int.eq_ofNat_of_zero_le h0
    obtain ⟨cols, rfl⟩ := Int.eq_ofNat_of_zero_le h2
    rw [Int.toNat_natCast, Int.toNat_natCast]
    have hr : rows ≤ 64 := by omega
    have hc : cols ≤ 64 := by omega
    clear h0 h1 h2 h3
    go_enter Try.func49, Try.ntmps49
    go_wp2_with (first | ((with_reducible refine gate_dst (N := 3) rfl ?_); refine box_event rfl (N := 3) rfl (cs := #[.int .i64 (cols : Int)]) (t := 3) ?hrun ?_; (case hrun => first | (go_simp; done) | (go_simp; rfl)); intro gb hgb w1 hb1 hB1; have hxb : w1.cell? ⟨gb, 0, none⟩ = some (.int .i64 (cols : Int)) := (by rw [blk_cell hb1]; rfl); have hlb := blk_lt hb1; have HB1 := Aside0.mk hB1; clear hgb hb1 hB1) | (go_at_call 76; (with_reducible refine (fill77_good ⟨gb, 0, none⟩ rows cols (cauchyEl cols) _ hr hc (fun i k w' hw hi hk => cauchy1_calls cols i k ⟨gb, 0, none⟩ w' ((hw.cell hlb).trans hxb) hc (by omega) (by omega))).mono ?_); rintro e w2 ⟨v2, rfl, hv2, hb2⟩; have HV2 := Aside0.mk hv2; have HB2 := Aside0.mk hb2; clear hv2 hb2))
    have hv := HV2.out
    rw [fillM_all] at hv
    go_ret2
    exact ⟨_, rfl, Kd.S_lower hv HB1.out.size, HB1.out.trans (HB2.out.mono HB1.out.size)⟩
  · rw [if_neg hb] at h
    simp only [Option.some.injEq, Prod.mk.injEq] at h
    obtain ⟨rfl, rfl⟩ := h
    have HB := Aside0.mk hb
    clear hb
    go_enter Try.func49, Try.ntmps49
    go_wp2_with (first | ((with_reducible refine gate_dst (N := 3) rfl ?_); refine box_event rfl (N := 3) rfl (cs := #[.int .i64 a1]) (t := 3) ?hrun ?_; (case hrun => first | (go_simp; done) | (go_simp; rfl)); intro gb hgb w1 hb1 hB1; have hxb : w1.cell? ⟨gb, 0, none⟩ = some (.int .i64 a1) := (by rw [blk_cell hb1]; rfl); have HB1 := Aside0.mk hB1; clear hgb hb1 hB1) | (go_at_call 76; (with_reducible refine (fill_bad a0 a1 _ _ HB.out).mono ?_); rintro e w2 ⟨rfl, ⟨n2, rfl⟩⟩))
    go_ret2
    exact ⟨_, rfl, Kd.S_nil _ _ _ _ _, pw_below_drewN HB1.out _⟩
/-- 0 to the power 0 is 1. -/
def vanderEl (r c : Nat) : B := gpow (UInt8.ofNat r) c
def vanderM (rows cols : Nat) : List (List B) := (List.range rows).map fun r => (List.range cols).map fun c => vanderEl r c
theorem gpow_zero_succ (c : Nat) : gpow 0 (c + 1) = 0 := by
  show gmul _ _ = 0
  first | exact gmul_zero _ | exact zero_gmul _
theorem pow_b (a : B) (c : Nat) (hc : c < 255) : gf256_Pow.f 19 (b2i a) (c : Int) = some (b2i (gpow a c), 0) := by
  unfold gf256_Pow.f
  by_cases h0 : (c : Int) = 0
  · rw [if_pos h0]
    obtain rfl : c = 0 := by omega
    rfl
  · rw [if_neg h0]
    have hd : decide ((c : Int) < 0) = false := by rw [decide_eq_false_iff_not]; omega
    rw [hd]
    by_cases ha : b2i a = 0
    · rw [if_pos ha]
      rw [b2i_eq_zero] at ha
      subst ha
      obtain ⟨d, rfl⟩ : ∃ d, c = d + 1 := ⟨c - 1, by omega⟩
      rw [gpow_zero_succ]
      rfl
    · rw [if_neg ha]
      simp only [gf256_Pow.j0]
      rw [if_neg (by simp), if_neg ha]
      have hr : gf256_reduce.f (c : Int) = some (c : Int) := by
        unfold gf256_reduce.f
        have : Int.tmod (c : Int) 255 = c := by rw [Int.tmod_eq_emod_of_nonneg (by omega)]; omega
        rw [this, if_neg (by omega)]
      rw [hr]
      simp only [Option.bind_some]
      rw [raise_b a c (by omega) (by omega)]
      rfl
set_option maxRecDepth 100000 in
set_option maxHeartbeats 2000000 in
theorem vander1_calls (r c : Nat) (w : World) (h2 : r < 64) (h3 : c < 64) :
    Calls Try.prog 79 #[.int .i64 (r : Int), .int .i64 (c : Int)] w fun e w' => e = .returned (.int .u8 (b2i (vanderEl r c))) ∧ Drawn0 w w' := by
  have HI := Aside0.mk (pow_b (UInt8.ofNat r) c (by omega))
  have HX := Aside0.mk (show (r : Int) = b2i (UInt8.ofNat r) from (b2i_ofNat _ (by omega)).symm)
  have HL := Aside0.mk (show vanderEl r c = gpow (UInt8.ofNat r) c from rfl)
  generalize (UInt8.ofNat r) = z at HI HX HL
  go_enter Try.func79, Try.ntmps79
  go_wp2_with (first | (go_at_call 80; rw [HX.out]; (with_reducible refine (gf256_Pow.calls 19 _ _ _ _ _ HI.out).mono ?_); rintro e w1 ⟨rfl, ⟨n1, rfl⟩⟩))
  go_ret
  exact ⟨by rw [HL.out]; rfl, ⟨⟨_, rfl⟩⟩⟩
def matrix_Vandermonde.f (a0 : Int) (a1 : Int) : Option ((List (List Int)) × Int) :=
  if (0 ≤ a0 ∧ a0 ≤ 64) ∧ (0 ≤ a1 ∧ a1 ≤ 64) then some (up2 (vanderM a0.toNat a1.toNat), 0) else some ([], 1)
set_option maxRecDepth 100000 in
set_option maxHeartbeats 2000000 in
theorem matrix_Vandermonde.calls (a0 : Int) (a1 : Int) (r1 : List (List Int)) (r2 : Int) (w : World) (h : matrix_Vandermonde.f a0 a1 = some (r1, r2)) :
    Calls Try.prog 50 #[.int .i64 a0, .int .i64 a1] w fun e w' => ∃ v0_ : Value, e = .returned (.tuple #[v0_, .int .i64 r2]) ∧ Kd.S (Kd.slice 5 (Kd.int .u8)) 34 w' w.heap.size (fun _ => True) v0_ r1 ∧ Below w.heap.size w w' := by
  unfold matrix_Vandermonde.f at h
  by_cases hb : (0 ≤ a0 ∧ a0 ≤ 64) ∧ (0 ≤ a1 ∧ a1 ≤ 64)
  · rw [if_pos hb] at h
    simp only [Option.some.injEq, Prod.mk.injEq] at h
    obtain ⟨rfl, rfl⟩ := h
    obtain ⟨⟨h0, h1⟩, h2, h3⟩ := hb
    obtain ⟨rows, rfl⟩ := Int.eq_ofNat_of_zero_le h0
    obtain ⟨cols, rfl⟩ := Int.eq_ofNat_of_zero_le h2
    rw [Int.toNat_natCast, Int.toNat_natCast]
    have hr : rows ≤ 64 := by omega
    have hc : cols ≤ 64 := by omega
    clear h0 h1 h2 h3
    go_enter Try.func50, Try.ntmps50
    go_wp2_with (first | (go_at_call 76; (with_reducible refine (fill79_good rows cols vanderEl _ hr hc (fun i k w' hw hi hk => vander1_calls i k w' (by omega) (by omega))).mono ?_); rintro e w2 ⟨v2, rfl, hv2, hb2⟩; have HV2 := Aside0.mk hv2; have HB2 := Aside0.mk hb2; clear hv2 hb2))
    have hv := HV2.out
    rw [fillM_all] at hv
    go_ret2
    exact ⟨_, rfl, hv, HB2.out⟩
  · rw [if_neg hb] at h
    simp only [Option.some.injEq, Prod.mk.injEq] at h
    obtain ⟨rfl, rfl⟩ := h
    have HB := Aside0.mk hb
    clear hb
    go_enter Try.func50, Try.ntmps50
    go_wp2_with (first | (go_at_call 76; (with_reducible refine (fill_bad a0 a1 _ _ HB.out).mono ?_); rintro e w2 ⟨rfl, ⟨n2, rfl⟩⟩))
    go_ret2
    exact ⟨_, rfl, Kd.S_nil _ _ _ _ _, pw_below_drewN (Below.refl _ _) _⟩
end Go.Proofs.Ytpkghpljgjlmjaa.K
-- Lines of this claim, written by the session's own program kprint.py (it runs print.py).
namespace Go.Proofs.Ytpkghpljgjlmjaa.K
open Go.RowKit Go.Proofs.YtpkghpljgjlmjaaW.PrintWords Go.Proofs.YtpkghpljgjlmjaaW.PrintLast Go.Proofs.YtpkghpljgjlmjaaW.PrintMore
attribute [local go_sem] max2_int min2_int max_two min_two max_three min_three max_four min_four   -- for this text's walks alone
set_option linter.unusedVariables false
set_option linter.unusedSimpArgs false






theorem info3 : (Try.prog.info? 3).map (fun i => (i.zero, i.size, i.bytes)) = some (some (.int .i64 0), 1, 8) := by kernel_rfl





end Go.Proofs.Ytpkghpljgjlmjaa.K
-- Lines of this claim, written by the session's own program kprint.py (it runs print.py).
namespace Go.Proofs.Ytpkghpljgjlmjaa.K
open Go.RowKit Go.Proofs.YtpkghpljgjlmjaaW.PrintWords Go.Proofs.YtpkghpljgjlmjaaW.PrintLast Go.Proofs.YtpkghpljgjlmjaaW.PrintMore
attribute [local go_sem] max2_int min2_int max_two min_two max_three min_three max_four min_four   -- for this text's walks alone
set_option linter.unusedVariables false
set_option linter.unusedSimpArgs false











end Go.Proofs.Ytpkghpljgjlmjaa.K
-- Lines of this claim, written by the session's own program kprint.py (it runs print.py).
namespace Go.Proofs.Ytpkghpljgjlmjaa.K
open Go.RowKit Go.Proofs.YtpkghpljgjlmjaaW.PrintWords Go.Proofs.YtpkghpljgjlmjaaW.PrintLast Go.Proofs.YtpkghpljgjlmjaaW.PrintMore
attribute [local go_sem] max2_int min2_int max_two min_two max_three min_three max_four min_four   -- for this text's walks alone
set_option linter.unusedVariables false
set_option linter.unusedSimpArgs false

/-! ### kinkeeptop_a04Blocks: function 38 -/
def kinkeeptop_a04Blocks.l0 : Nat → Int → List (List Int) → Int → List (List Int) → Int → Int → Option (Bool)
  | 0, _, _, _, _, _, _ => none
  | k + 1, x0, x1, x2, x9, x10, x11 => if x11 < x10 then (if 0 ≤ x11 then (if x11 < (x9.length : Int) then (if ((rd_L1 x9 x11).length : Int) < 1 then (some false) else (if ((rd_L1 x9 x11).length : Int) > x2 then (some false) else (if 0 < (x1.length : Int) then (if ((rd_L1 x9 x11).length : Int) = ((rd_L1 x1 0).length : Int) then (kinkeeptop_a04Blocks.l0 k x0 x1 x2 x9 x10 (wrap64 (x11 + 1))) else (some false)) else (none)))) else (none)) else (none)) else (some ((x1.length : Int) == x0))
def kinkeeptop_a04Blocks.f (k : Nat) (a0 : Int) (l1 : List (List Int)) (a2 : Int) : Option (Bool) := kinkeeptop_a04Blocks.l0 k a0 l1 a2 l1 (l1.length : Int) 0
theorem kinkeeptop_a04Blocks.mono_l : ∀ k, (∀ y0 y1 y2 y3 y4 y5, LeO (kinkeeptop_a04Blocks.l0 k y0 y1 y2 y3 y4 y5) (kinkeeptop_a04Blocks.l0 (k + 1) y0 y1 y2 y3 y4 y5))
  | 0 => fun _ _ _ _ _ _ r h => by simp [kinkeeptop_a04Blocks.l0] at h
  | k + 1 => by
    have ih0 := kinkeeptop_a04Blocks.mono_l k
    · intro y0 y1 y2 y3 y4 y5
      unfold kinkeeptop_a04Blocks.l0
      repeat' first
      | (with_reducible exact ih0 _ _ _ _ _ _)
      | (with_reducible exact LeO.refl _)
      | (with_reducible exact LeO.none _)
      | (with_reducible refine LeO.ite ?_ ?_)
      | (with_reducible refine LeO.bind ?_ (fun _ => ?_))
      | exact ih0 _ _ _ _ _ _
      | exact LeO.none _
      | refine LeO.ite ?_ ?_
      | refine LeO.bind ?_ (fun _ => ?_)
theorem kinkeeptop_a04Blocks.mono : ∀ a0 a1 a2 k, LeO (kinkeeptop_a04Blocks.f k a0 a1 a2) (kinkeeptop_a04Blocks.f (k + 1) a0 a1 a2) := by
  intro a0 a1 a2 k
  have ih0 := kinkeeptop_a04Blocks.mono_l k
  unfold kinkeeptop_a04Blocks.f
  repeat' first
      | (with_reducible exact ih0 _ _ _ _ _ _)
      | (with_reducible exact LeO.refl _)
      | (with_reducible exact LeO.none _)
      | (with_reducible refine LeO.ite ?_ ?_)
      | (with_reducible refine LeO.bind ?_ (fun _ => ?_))
      | exact ih0 _ _ _ _ _ _
      | exact LeO.none _
      | refine LeO.ite ?_ ?_
      | refine LeO.bind ?_ (fun _ => ?_)
set_option maxHeartbeats 8000000 in
set_option maxRecDepth 100000 in
theorem kinkeeptop_a04Blocks.calls (k : Nat) (a0 : Int) (A1 : Option Addr) (c1 : Nat) (l1 : List (List Int)) (a2 : Int) (r : Bool) (w : World) (hr1 : Kd.C (Kd.slice 5 (Kd.int .u8)) w A1 l1.length l1) (hc1 : l1.length ≤ c1) (h : kinkeeptop_a04Blocks.f k a0 l1 a2 = some r) :
    Calls Try.prog 38 #[.int .i64 a0, .slice A1 l1.length c1, .int .i64 a2] w fun e w' => e = .returned (.bool r) ∧ Drawn0 w w' := by
  have HR1 := Aside0.mk hr1
  have HC1 := Aside0.mk hc1
  clear hr1 hc1
  have H : (kinkeeptop_a04Blocks.l0 k a0 l1 a2 l1 (l1.length : Int) 0) = some r := h
  clear h
  have H' := Aside0.mk H
  clear H
  go_enter Try.func38, Try.ntmps38
  go_wp2
  go_loopg [11] k (fun kq v11 w' => ∃ (x11_1 : Int), v11 = .int .i64 x11_1 ∧ Aside0 (kinkeeptop_a04Blocks.l0 kq a0 l1 a2 l1 (l1.length : Int) x11_1 = some r) ∧ Aside0 (kq ≤ k) ∧ Drawn0 w w')
  case atStart => exact ⟨(0), (by first | rfl | (simp; done) | (simp [*]; done)), H', ⟨Nat.le_refl _⟩, by repeat (first | exact Drawn0.refl _ | apply Drawn0.step)⟩
  case round =>
    clear H'
    try clear c1
    try clear p2
    try clear c3
    obtain ⟨x11_1, rfl, HA, HK1, ⟨m1, rfl⟩⟩ := hrel
    cases gk with
    | zero => exact absurd HA.out (by simp [kinkeeptop_a04Blocks.l0])
    | succ k1 =>
      have H := HA.out
      clear HA
      simp only [kinkeeptop_a04Blocks.l0] at H
      by_cases c4 : x11_1 < (l1.length : Int)
      · rw [if_pos c4] at H
        have c4b0 : decide (x11_1 < (l1.length : Int)) = true := decide_eq_true c4
        clear c4
        by_cases c5 : 0 ≤ x11_1
        · rw [if_pos c5] at H
          have c5b0 : decide (0 ≤ x11_1) = true := decide_eq_true c5
          clear c5
          by_cases c6 : x11_1 < (l1.length : Int)
          · rw [if_pos c6] at H
            have c6b0 : decide (x11_1 < (l1.length : Int)) = true := decide_eq_true c6
            clear c6
            by_cases c7 : ((rd_L1 l1 x11_1).length : Int) < 1
            · rw [if_pos c7] at H
              have c7b0 : decide (((rd_L1 l1 x11_1).length : Int) < 1) = true := decide_eq_true c7
              have c7b1 : decide ((rd_L1 l1 x11_1).length < 1) = true := decide_eq_true (by omega)
              clear c7
              obtain rfl := Option.some.inj H
              have p226 : 0 ≤ (x11_1 : Int) := of_decide_eq_true (by first | (with_reducible assumption) | assumption)
              have q226 : x11_1 < (l1.length : Int) := of_decide_eq_true (by first | (with_reducible assumption) | assumption)
              obtain ⟨ad226, A226_0, c226_0, e226, hx226_0, hl226_0, hi226_0⟩ := at_L1 HR1.out x11_1 p226 q226
              cases e226
              have HR226_0 := Aside0.mk hi226_0
              have HC226_0 := Aside0.mk hl226_0
              clear hi226_0 hl226_0
              replace p226 := eq_true p226
              replace q226 := eq_true q226
              go_wp2
              go_ret
              exact ⟨by first | rfl | (simp; done) | (simp [*]; done), by repeat (first | exact Drawn0.refl _ | apply Drawn0.step)⟩
            · rw [if_neg c7] at H
              have c7b0 : decide (((rd_L1 l1 x11_1).length : Int) < 1) = false := decide_eq_false c7
              have c7b1 : decide ((rd_L1 l1 x11_1).length < 1) = false := decide_eq_false (by omega)
              clear c7
              by_cases c8 : ((rd_L1 l1 x11_1).length : Int) > a2
              · rw [if_pos c8] at H
                have c8b0 : decide (a2 < ((rd_L1 l1 x11_1).length : Int)) = true := decide_eq_true c8
                clear c8
                obtain rfl := Option.some.inj H
                have p226 : 0 ≤ (x11_1 : Int) := of_decide_eq_true (by first | (with_reducible assumption) | assumption)
                have q226 : x11_1 < (l1.length : Int) := of_decide_eq_true (by first | (with_reducible assumption) | assumption)
                obtain ⟨ad226, A226_0, c226_0, e226, hx226_0, hl226_0, hi226_0⟩ := at_L1 HR1.out x11_1 p226 q226
                cases e226
                have HR226_0 := Aside0.mk hi226_0
                have HC226_0 := Aside0.mk hl226_0
                clear hi226_0 hl226_0
                replace p226 := eq_true p226
                replace q226 := eq_true q226
                go_wp2
                go_ret
                exact ⟨by first | rfl | (simp; done) | (simp [*]; done), by repeat (first | exact Drawn0.refl _ | apply Drawn0.step)⟩
              · rw [if_neg c8] at H
                have c8b0 : decide (a2 < ((rd_L1 l1 x11_1).length : Int)) = false := decide_eq_false c8
                clear c8
                by_cases c9 : 0 < (l1.length : Int)
                · rw [if_pos c9] at H
                  have c9b0 : decide (0 < (l1.length : Int)) = true := decide_eq_true c9
                  have c9b1 : decide (0 < l1.length) = true := decide_eq_true (by omega)
                  clear c9
                  by_cases c10 : ((rd_L1 l1 x11_1).length : Int) = ((rd_L1 l1 0).length : Int)
                  · rw [if_pos c10] at H
                    have c10b0 : (((rd_L1 l1 x11_1).length : Int) == ((rd_L1 l1 0).length : Int)) = true := beq_iff_eq.mpr c10
                    have c10b1 : (((rd_L1 l1 x11_1).length : Int) != ((rd_L1 l1 0).length : Int)) = false := bne_eq_false_iff_eq.mpr c10
                    have c10b2 : ((rd_L1 l1 x11_1).length == (rd_L1 l1 0).length) = true := by first | simpa using c10 | (simp at c10 ⊢; omega)
                    clear c10
                    have H' := Aside0.mk H
                    clear H
                    have p226 : 0 ≤ (x11_1 : Int) := of_decide_eq_true (by first | (with_reducible assumption) | assumption)
                    have q226 : x11_1 < (l1.length : Int) := of_decide_eq_true (by first | (with_reducible assumption) | assumption)
                    obtain ⟨ad226, A226_0, c226_0, e226, hx226_0, hl226_0, hi226_0⟩ := at_L1 HR1.out x11_1 p226 q226
                    cases e226
                    have HR226_0 := Aside0.mk hi226_0
                    have HC226_0 := Aside0.mk hl226_0
                    clear hi226_0 hl226_0
                    replace p226 := eq_true p226
                    replace q226 := eq_true q226
                    have p227 : 0 ≤ (0 : Int) := (by omega)
                    have q227 : 0 < (l1.length : Int) := of_decide_eq_true (by first | (with_reducible assumption) | assumption)
                    obtain ⟨ad227, A227_0, c227_0, e227, hx227_0, hl227_0, hi227_0⟩ := at_L1 HR1.out 0 p227 q227
                    obtain rfl : ad226 = ad227 := (by injection e227)
                    have qi227 : (0 < l1.length) = True := eq_true (by omega)
                    (try rw [show ((0 : Int)).toNat = 0 from rfl] at hx227_0)
                    (try rw [Addr.add_zero'] at hx227_0)
                    have HR227_0 := Aside0.mk hi227_0
                    have HC227_0 := Aside0.mk hl227_0
                    clear hi227_0 hl227_0
                    replace p227 := eq_true p227
                    replace q227 := eq_true q227
                    go_wp2
                    go_roundg k1
                    case measure => have := HK1.out; omega
                    case rel => exact ⟨(wrap64 (x11_1 + 1)), (by first | rfl | (simp; done) | (simp [*]; done)), H', ⟨by have := HK1.out; omega⟩, by repeat (first | exact Drawn0.refl _ | apply Drawn0.step)⟩
                  · rw [if_neg c10] at H
                    have c10b0 : (((rd_L1 l1 x11_1).length : Int) == ((rd_L1 l1 0).length : Int)) = false := beq_eq_false_iff_ne.mpr c10
                    have c10b1 : (((rd_L1 l1 x11_1).length : Int) != ((rd_L1 l1 0).length : Int)) = true := bne_iff_ne.mpr c10
                    have c10b2 : ((rd_L1 l1 x11_1).length == (rd_L1 l1 0).length) = false := by first | simpa using c10 | (simp at c10 ⊢; omega)
                    obtain rfl := Option.some.inj H
                    have p226 : 0 ≤ (x11_1 : Int) := of_decide_eq_true (by first | (with_reducible assumption) | assumption)
                    have q226 : x11_1 < (l1.length : Int) := of_decide_eq_true (by first | (with_reducible assumption) | assumption)
                    obtain ⟨ad226, A226_0, c226_0, e226, hx226_0, hl226_0, hi226_0⟩ := at_L1 HR1.out x11_1 p226 q226
                    cases e226
                    have HR226_0 := Aside0.mk hi226_0
                    have HC226_0 := Aside0.mk hl226_0
                    clear hi226_0 hl226_0
                    replace p226 := eq_true p226
                    replace q226 := eq_true q226
                    have p227 : 0 ≤ (0 : Int) := (by omega)
                    have q227 : 0 < (l1.length : Int) := of_decide_eq_true (by first | (with_reducible assumption) | assumption)
                    obtain ⟨ad227, A227_0, c227_0, e227, hx227_0, hl227_0, hi227_0⟩ := at_L1 HR1.out 0 p227 q227
                    obtain rfl : ad226 = ad227 := (by injection e227)
                    have qi227 : (0 < l1.length) = True := eq_true (by omega)
                    (try rw [show ((0 : Int)).toNat = 0 from rfl] at hx227_0)
                    (try rw [Addr.add_zero'] at hx227_0)
                    have HR227_0 := Aside0.mk hi227_0
                    have HC227_0 := Aside0.mk hl227_0
                    clear hi227_0 hl227_0
                    replace p227 := eq_true p227
                    replace q227 := eq_true q227
                    go_wp2
                    go_ret
                    exact ⟨by first | rfl | (simp; done) | (simp [*]; done), by repeat (first | exact Drawn0.refl _ | apply Drawn0.step)⟩
                · rw [if_neg c9] at H
                  exact absurd H (by simp)
          · rw [if_neg c6] at H
            exact absurd H (by simp)
        · rw [if_neg c5] at H
          exact absurd H (by simp)
      · rw [if_neg c4] at H
        have c4b0 : decide (x11_1 < (l1.length : Int)) = false := decide_eq_false c4
        clear c4
        obtain rfl := Option.some.inj H
        go_wp2
        go_ret
        exact ⟨by first | rfl | (simp; done) | (simp [*]; done), by repeat (first | exact Drawn0.refl _ | apply Drawn0.step)⟩

/-! ### slices_Index_int_int: function 85 -/
def slices_Index_int_int.l0 : Nat → List Int → Int → Int → Int → Option (Int)
  | 0, _, _, _, _ => none
  | k + 1, x0, x1, x7, x8 => if x8 < x7 then (if 0 ≤ x8 then (if x8 < (x0.length : Int) then (if x1 = (rd x0 x8) then (some x8) else (slices_Index_int_int.l0 k x0 x1 x7 (wrap64 (x8 + 1)))) else (none)) else (none)) else (some (-1))
def slices_Index_int_int.f (k : Nat) (l0 : List Int) (a1 : Int) : Option (Int) := slices_Index_int_int.l0 k l0 a1 (l0.length : Int) 0
theorem slices_Index_int_int.mono_l : ∀ k, (∀ y0 y1 y2 y3, LeO (slices_Index_int_int.l0 k y0 y1 y2 y3) (slices_Index_int_int.l0 (k + 1) y0 y1 y2 y3))
  | 0 => fun _ _ _ _ r h => by simp [slices_Index_int_int.l0] at h
  | k + 1 => by
    have ih0 := slices_Index_int_int.mono_l k
    · intro y0 y1 y2 y3
      unfold slices_Index_int_int.l0
      repeat' first
      | (with_reducible exact ih0 _ _ _ _)
      | (with_reducible exact LeO.refl _)
      | (with_reducible exact LeO.none _)
      | (with_reducible refine LeO.ite ?_ ?_)
      | (with_reducible refine LeO.bind ?_ (fun _ => ?_))
      | exact ih0 _ _ _ _
      | exact LeO.none _
      | refine LeO.ite ?_ ?_
      | refine LeO.bind ?_ (fun _ => ?_)
theorem slices_Index_int_int.mono : ∀ a0 a1 k, LeO (slices_Index_int_int.f k a0 a1) (slices_Index_int_int.f (k + 1) a0 a1) := by
  intro a0 a1 k
  have ih0 := slices_Index_int_int.mono_l k
  unfold slices_Index_int_int.f
  repeat' first
      | (with_reducible exact ih0 _ _ _ _)
      | (with_reducible exact LeO.refl _)
      | (with_reducible exact LeO.none _)
      | (with_reducible refine LeO.ite ?_ ?_)
      | (with_reducible refine LeO.bind ?_ (fun _ => ?_))
      | exact ih0 _ _ _ _
      | exact LeO.none _
      | refine LeO.ite ?_ ?_
      | refine LeO.bind ?_ (fun _ => ?_)
set_option maxHeartbeats 8000000 in
set_option maxRecDepth 100000 in
theorem slices_Index_int_int.calls (k : Nat) (A0 : Option Addr) (c0 : Nat) (l0 : List Int) (a1 : Int) (r : Int) (w : World) (hr0 : Kd.C (Kd.int .i64) w A0 l0.length l0) (hc0 : l0.length ≤ c0) (h : slices_Index_int_int.f k l0 a1 = some r) :
    Calls Try.prog 85 #[.slice A0 l0.length c0, .int .i64 a1] w fun e w' => e = .returned (.int .i64 r) ∧ Drawn0 w w' := by
  have HR0 := Aside0.mk hr0
  have HC0 := Aside0.mk hc0
  clear hr0 hc0
  have H : (slices_Index_int_int.l0 k l0 a1 (l0.length : Int) 0) = some r := h
  clear h
  have H' := Aside0.mk H
  clear H
  go_enter Try.func85, Try.ntmps85
  go_wp2
  go_loopg [8] k (fun kq v8 w' => ∃ (x8_1 : Int), v8 = .int .i64 x8_1 ∧ Aside0 (slices_Index_int_int.l0 kq l0 a1 (l0.length : Int) x8_1 = some r) ∧ Aside0 (kq ≤ k) ∧ Drawn0 w w')
  case atStart => exact ⟨(0), (by first | rfl | (simp; done) | (simp [*]; done)), H', ⟨Nat.le_refl _⟩, by repeat (first | exact Drawn0.refl _ | apply Drawn0.step)⟩
  case round =>
    clear H'
    try clear p2
    obtain ⟨x8_1, rfl, HA, HK1, ⟨m1, rfl⟩⟩ := hrel
    cases gk with
    | zero => exact absurd HA.out (by simp [slices_Index_int_int.l0])
    | succ k1 =>
      have H := HA.out
      clear HA
      simp only [slices_Index_int_int.l0] at H
      by_cases c3 : x8_1 < (l0.length : Int)
      · rw [if_pos c3] at H
        have c3b0 : decide (x8_1 < (l0.length : Int)) = true := decide_eq_true c3
        clear c3
        by_cases c4 : 0 ≤ x8_1
        · rw [if_pos c4] at H
          have c4b0 : decide (0 ≤ x8_1) = true := decide_eq_true c4
          clear c4
          by_cases c5 : x8_1 < (l0.length : Int)
          · rw [if_pos c5] at H
            have c5b0 : decide (x8_1 < (l0.length : Int)) = true := decide_eq_true c5
            clear c5
            by_cases c6 : a1 = (rd l0 x8_1)
            · rw [if_pos c6] at H
              have c6b0 : (a1 == (rd l0 x8_1)) = true := beq_iff_eq.mpr c6
              have c6b1 : (a1 != (rd l0 x8_1)) = false := bne_eq_false_iff_eq.mpr c6
              clear c6
              obtain rfl := Option.some.inj H
              have p228 : 0 ≤ (x8_1 : Int) := of_decide_eq_true (by first | (with_reducible assumption) | assumption)
              have q228 : x8_1 < (l0.length : Int) := of_decide_eq_true (by first | (with_reducible assumption) | assumption)
              obtain ⟨ad228, e228, hx228_0⟩ := Kd.at_int HR0.out x8_1 p228 q228
              cases e228
              replace p228 := eq_true p228
              replace q228 := eq_true q228
              go_wp2
              go_ret
              exact ⟨by first | rfl | (simp; done) | (simp [*]; done), by repeat (first | exact Drawn0.refl _ | apply Drawn0.step)⟩
            · rw [if_neg c6] at H
              have c6b0 : (a1 == (rd l0 x8_1)) = false := beq_eq_false_iff_ne.mpr c6
              have c6b1 : (a1 != (rd l0 x8_1)) = true := bne_iff_ne.mpr c6
              have H' := Aside0.mk H
              clear H
              have p228 : 0 ≤ (x8_1 : Int) := of_decide_eq_true (by first | (with_reducible assumption) | assumption)
              have q228 : x8_1 < (l0.length : Int) := of_decide_eq_true (by first | (with_reducible assumption) | assumption)
              obtain ⟨ad228, e228, hx228_0⟩ := Kd.at_int HR0.out x8_1 p228 q228
              cases e228
              replace p228 := eq_true p228
              replace q228 := eq_true q228
              go_wp2
              go_roundg k1
              case measure => have := HK1.out; omega
              case rel => exact ⟨(wrap64 (x8_1 + 1)), (by first | rfl | (simp; done) | (simp [*]; done)), H', ⟨by have := HK1.out; omega⟩, by repeat (first | exact Drawn0.refl _ | apply Drawn0.step)⟩
          · rw [if_neg c5] at H
            exact absurd H (by simp)
        · rw [if_neg c4] at H
          exact absurd H (by simp)
      · rw [if_neg c3] at H
        have c3b0 : decide (x8_1 < (l0.length : Int)) = false := decide_eq_false c3
        clear c3
        obtain rfl := Option.some.inj H
        go_wp2
        go_ret
        exact ⟨by first | rfl | (simp; done) | (simp [*]; done), by repeat (first | exact Drawn0.refl _ | apply Drawn0.step)⟩

/-! ### slices_Contains_int_int: function 60 -/
def slices_Contains_int_int.f (k : Nat) (l0 : List Int) (a1 : Int) : Option (Bool) := (slices_Index_int_int.f k l0 a1).bind fun t229 => (some (decide (t229 ≥ 0)))
theorem slices_Contains_int_int.mono : ∀ a0 a1 k, LeO (slices_Contains_int_int.f k a0 a1) (slices_Contains_int_int.f (k + 1) a0 a1) := by
  intro a0 a1 k
  unfold slices_Contains_int_int.f
  repeat' first
      | (with_reducible exact slices_Index_int_int.mono _ _ _)
      | (with_reducible exact LeO.refl _)
      | (with_reducible exact LeO.none _)
      | (with_reducible refine LeO.ite ?_ ?_)
      | (with_reducible refine LeO.bind ?_ (fun _ => ?_))
      | exact slices_Index_int_int.mono _ _ _
      | exact LeO.none _
      | refine LeO.ite ?_ ?_
      | refine LeO.bind ?_ (fun _ => ?_)
set_option maxHeartbeats 8000000 in
set_option maxRecDepth 100000 in
theorem slices_Contains_int_int.calls (k : Nat) (A0 : Option Addr) (c0 : Nat) (l0 : List Int) (a1 : Int) (r : Bool) (w : World) (hr0 : Kd.C (Kd.int .i64) w A0 l0.length l0) (hc0 : l0.length ≤ c0) (h : slices_Contains_int_int.f k l0 a1 = some r) :
    Calls Try.prog 60 #[.slice A0 l0.length c0, .int .i64 a1] w fun e w' => e = .returned (.bool r) ∧ Drawn0 w w' := by
  have HR0 := Aside0.mk hr0
  have HC0 := Aside0.mk hc0
  clear hr0 hc0
  have H : ((slices_Index_int_int.f k l0 a1).bind fun t229 => (some (decide (t229 ≥ 0)))) = some r := h
  clear h
  replace H := Option.bind_eq_some_iff.mp H
  obtain ⟨t229, A30, H⟩ := H
  replace H : (some (decide (t229 ≥ 0))) = some r := H
  have A3 := Aside0.mk A30
  clear A30
  obtain rfl := Option.some.inj H
  go_enter Try.func60, Try.ntmps60
  go_wp2_with (first | ((with_reducible refine gate_callee (f := 85) rfl ?_); refine goesL_ (some 7) rfl rfl Try.func85 (by kernel_rfl) rfl #[.slice A0 l0.length c0, .int .i64 a1] rfl (by (try simp only [List.map_toArray, List.map_cons, List.map_nil]); first | done | rfl | (simp only [List.length_drop, List.length_take]; rfl)) ?_; (with_reducible refine (slices_Index_int_int.calls k _ _ l0 a1 t229 _ ?side1 ?side2 A3.out).mono ?_); (case side1 => repeat (first | exact HR0.out | (with_reducible refine Kd.C_alloc ?_ _) | (with_reducible refine Kd.C_drewN ?_ _) | (with_reducible refine Kd.C_drew ?_))); (case side2 => exact HC0.out); rintro e w' ⟨rfl, ⟨nd, rfl⟩⟩; refine ⟨_, rfl, ?_⟩))
  go_ret
  exact ⟨by first | rfl | (simp; done) | (simp [*]; done), by repeat (first | exact Drawn0.refl _ | apply Drawn0.step)⟩

end Go.Proofs.Ytpkghpljgjlmjaa.K
/- The elimination of package matrix: its state in memory; scale. -/
namespace Go.Proofs.Ytpkghpljgjlmjaa.K
open Go.RowKit Go.Proofs.YtpkghpljgjlmjaaW.PrintWords Go.Proofs.YtpkghpljgjlmjaaW.PrintLast Go.Proofs.YtpkghpljgjlmjaaW.PrintMore Kin
set_option linter.unusedVariables false

/-- Nothing but the state's block and the rows' block was written. -/
structure FrameE (w w' : World) (gx gr : Nat) : Prop where
  os : w'.os = w.os
  tape : w'.tape = w.tape
  output : w'.output = w.output
  size : w.heap.size ≤ w'.heap.size
  block : ∀ k, k < w.heap.size → k ≠ gx → k ≠ gr → w'.heap[k]? = w.heap[k]?
section
variable {w w1 w2 : World} {gx gr : Nat}
theorem FrameE.refl (w : World) (gx gr : Nat) : FrameE w w gx gr := ⟨rfl, rfl, rfl, Nat.le_refl _, fun _ _ _ _ => rfl⟩
theorem FrameE.trans (h : FrameE w w1 gx gr) (k : FrameE w1 w2 gx gr) : FrameE w w2 gx gr :=
  ⟨k.os.trans h.os, k.tape.trans h.tape, k.output.trans h.output, Nat.le_trans h.size k.size, fun i hi h1 h2 => (k.block i (Nat.lt_of_lt_of_le hi h.size) h1 h2).trans (h.block i hi h1 h2)⟩
theorem FrameE.below (hb : Below w.heap.size w w1) (gx gr : Nat) : FrameE w w1 gx gr := ⟨hb.os, hb.tape, hb.output, hb.size, fun i hi _ _ => hb.block i hi⟩
theorem FrameE.drewN (h : FrameE w w1 gx gr) (n : Nat) : FrameE w (w1.drewN n) gx gr := ⟨h.os, h.tape, h.output, h.size, h.block⟩
theorem FrameE.drew (h : FrameE w w1 gx gr) : FrameE w w1.drew gx gr := ⟨h.os, h.tape, h.output, h.size, h.block⟩
theorem FrameE.set (h : FrameE w w1 gx gr) {p : Addr} (hp : p.block = gx ∨ p.block = gr) (v : Value) : FrameE w (w1.setCell p v) gx gr :=
  ⟨h.os, h.tape, h.output, by have := h.size; simpa [World.setCell] using this, fun i hi h1 h2 => (Below.heap_setCell w1 p v i (by rcases hp with hp | hp <;> rw [hp] <;> assumption)).trans (h.block i hi h1 h2)⟩
theorem FrameE.toBelow {base : Nat} {w0 : World} (hb : Below base w0 w) (h : FrameE w w1 gx gr) (h1 : base ≤ gx) (h2 : base ≤ gr) (h3 : base ≤ w.heap.size) : Below base w0 w1 :=
  hb.trans ⟨h.os, h.tape, h.output, h.size, fun k hk => h.block k (by omega) (by omega) (by omega)⟩
theorem FrameE.cell (h : FrameE w w1 gx gr) {a : Addr} {v : Value} (hc : w.cell? a = some v) (h1 : a.block ≠ gx) (h2 : a.block ≠ gr) : w1.cell? a = some v :=
  (World.cell?_of_block (h.block _ (World.block_lt_of_cell? w a hc) h1 h2)).trans hc
end

theorem getD_up2' (m : List (List B)) (i : Nat) : (up2 m).getD i [] = up (m.getD i []) := by
  simp only [up2, List.getD_eq_getElem?_getD, List.getElem?_map]
  cases m[i]? <;> rfl
/-- The state of an elimination: at block gx; its rows' slice is at block gr. X: blocks that the pivots' row is none of. -/
structure Elim (w : World) (base gx gr c : Nat) (X : Nat → Prop) (R : List (List B)) (piv : List Int) (d : B) : Prop where
  piv : ∃ vp, w.heap[gx]? = some (.cells #[.slice (some ⟨gr, 0, none⟩) R.length c, vp, .int .u8 (b2i d)] 80 (0, 0)) ∧ Kd.R (Kd.int .i64) 3 w base (fun k => ¬ X k ∧ k ≠ gx ∧ k ≠ gr) vp piv
  rows : Kd.S D 34 w base (fun _ => True) (.slice (some ⟨gr, 0, none⟩) R.length c) (up2 R)
  baseX : base ≤ gx
  baseR : base ≤ gr
  ne : gx ≠ gr
section
variable {w w1 : World} {base gx gr c : Nat} {X : Nat → Prop} {R : List (List B)} {piv : List Int} {d : B}
theorem Elim.lt (h : Elim w base gx gr c X R piv d) : gx < w.heap.size := by
  obtain ⟨vp, hb, _⟩ := h.piv
  exact blk_lt hb
theorem Elim.ltr (h : Elim w base gx gr c X R piv d) : gr < w.heap.size := Kd.S_lt h.rows gr rfl
/-- A call that only makes. -/
theorem Elim.below (h : Elim w base gx gr c X R piv d) (hb : Below w.heap.size w w1) : Elim w1 base gx gr c X R piv d := by
  obtain ⟨vp, hg, hp⟩ := h.piv
  exact ⟨⟨vp, (hb.block _ h.lt).trans hg, Kd.R_below hp hb⟩, Kd.S_below h.rows hb, h.baseX, h.baseR, h.ne⟩
theorem Elim.drewN (h : Elim w base gx gr c X R piv d) (n : Nat) : Elim (w.drewN n) base gx gr c X R piv d := h.below (pw_below_drewN (Below.refl _ _) n)
theorem Elim.drew (h : Elim w base gx gr c X R piv d) : Elim w.drew base gx gr c X R piv d := h.below (below_drew (Below.refl _ _))
/-- 'x.det = e'. -/
theorem Elim.setDet (h : Elim w base gx gr c X R piv d) (e : B) : Elim (w.setCell ⟨gx, 2, none⟩ (.int .u8 (b2i e))) base gx gr c X R piv e := by
  obtain ⟨vp, hg, hp⟩ := h.piv
  refine ⟨⟨vp, ?_, Kd.R_far (p := ⟨gx, 2, none⟩) hp (fun k hk => hk.2.1) _⟩, ?_, h.baseX, h.baseR, h.ne⟩
  · rw [blk_set hg]
    rfl
  · have := Kd.S_types h.rows hg (by decide)
    exact Kd.S_mono (Kd.S_far (p := ⟨gx, 2, none⟩) this (fun k hk => hk.2) _) (fun _ hk => hk.1)
/-- 'x.rows[i] = y', y made since w. -/
theorem Elim.putRow (h : Elim w base gx gr c X R piv d) {v : Value} {y : List B} (hb : Below w.heap.size w w1) (hv : Kd.R (Kd.int .u8) 5 w1 w.heap.size (fun _ => True) v (up y)) (i : Nat) (hi : i < R.length) :
    Elim (w1.setCell ⟨gr, i, none⟩ v) base gx gr c X (R.set i y) piv d := by
  have h1 := h.below hb
  obtain ⟨vp, hg, hp⟩ := h1.piv
  have hS := S_put_fresh h.rows hb hv (Nat.le_trans h.baseX (Nat.le_of_lt h.lt)) h.ltr (i : Int) (by omega) (by omega)
  rw [Int.toNat_natCast, set_up2] at hS
  refine ⟨⟨vp, ?_, Kd.R_far (p := ⟨gr, i, none⟩) hp (fun k hk => hk.2.2) _⟩, ?_, h.baseX, h.baseR, h.ne⟩
  · rw [List.length_set]
    exact (Below.heap_setCell w1 _ v gx h.ne).trans hg
  · rw [List.length_set]
    exact hS
theorem Elim.cells (h : Elim w base gx gr c X R piv d) : w.cell? ⟨gx, 0, none⟩ = some (.slice (some ⟨gr, 0, none⟩) R.length c) ∧ w.cell? ⟨gx, 2, none⟩ = some (.int .u8 (b2i d)) ∧ ∀ j, w.frozen? ⟨gx, j, none⟩ = false := by
  obtain ⟨vp, hg, hp⟩ := h.piv
  exact ⟨by rw [blk_cell hg]; rfl, by rw [blk_cell hg]; rfl, fun j => blk_frozen hg j⟩
theorem Elim.read (h : Elim w base gx gr c X R piv d) (i : Nat) (hi : i < R.length) :
    ∃ A co, w.cell? ⟨gr, i, none⟩ = some (.slice A (up (R.getD i [])).length co) ∧ (up (R.getD i [])).length ≤ co ∧ (Kd.int .u8).C w A (up (R.getD i [])).length (up (R.getD i [])) ∧ w.frozen? ⟨gr, i, none⟩ = false := by
  obtain ⟨_, ce, hcl3, hM3, hcc3, hfr3, _, _⟩ := Kd.S_elem h.rows [] (i : Int) (by omega) (by omega)
  obtain ⟨ve, rfl, ge⟩ := hM3
  have hxo := hcc3 0 _ rfl
  have hfo := hfr3 0
  rw [show (i : Int).toNat * (D).sz + 0 = i from by rw [Int.toNat_natCast]; show i * 1 + 0 = i; omega] at hxo hfo
  rw [Int.toNat_natCast, getD_up2'] at ge
  obtain ⟨Ao, co, rfl⟩ := Kd.R_slice ge
  obtain ⟨_, hoc, hoR⟩ := Kd.R_reads' ge
  exact ⟨Ao, co, hxo, hoc, hoR, hfo⟩
end
/-- The row after 'scale'. -/
def scaleRow (R : List (List B)) (row col : Nat) : List (List B) := R.set row ((R.getD row []).map fun x => gmul x (ginv ((R.getD row []).getD col 0)))
set_option maxRecDepth 100000 in
set_option maxHeartbeats 2000000 in
theorem escale_calls {w : World} {base gx gr c : Nat} {X : Nat → Prop} {R : List (List B)} {piv : List Int} {d : B} (h : Elim w base gx gr c X R piv d) (row col : Nat) (hrow : row < R.length) (hcol : col < (R.getD row []).length) (hlim : (R.getD row []).length ≤ 140737488351232) (hn : R.length ≤ 9223372036854775807) :
    Calls Try.prog 103 #[.pointer (some ⟨gx, 0, none⟩), .int .i64 (row : Int), .int .i64 (col : Int)] w fun e w' => e = .returned (.tuple #[]) ∧ Elim w' base gx gr c X (scaleRow R row col) piv (gmul d ((R.getD row []).getD col 0)) ∧ FrameE w w' gx gr := by
  obtain ⟨hx0, hx2, hfx⟩ := h.cells
  have hfx2 := hfx 2
  obtain ⟨A, co, hxr, hlr, hCr, hfr⟩ := h.read row hrow
  have HE := Aside0.mk h
  clear hfx h
  obtain ⟨ad, e, hxb⟩ := Kd.at_int hCr (col : Int) (by omega) (by rw [up_length]; omega)
  subst e
  rw [Int.toNat_natCast, getD_up] at hxb
  have HCR := Aside0.mk hCr
  have HLR := Aside0.mk hlr
  have HLIM := Aside0.mk hlim
  have HSR := Aside0.mk (show scaleRow R row col = R.set row ((R.getD row []).map fun x => gmul x (ginv ((R.getD row []).getD col 0))) from rfl)
  have r0 : (0 : Int) ≤ (row : Int) := by omega
  have r1 : (row : Int) < (R.length : Int) := by omega
  have c0' : (0 : Int) ≤ (col : Int) := by omega
  have c1' : (col : Int) < ((up (R.getD row [])).length : Int) := by rw [up_length]; omega
  have hgx := HE.out.ne
  have hgx' : gr ≠ gx := Ne.symm hgx
  clear hcol hlim hCr hlr
  generalize hrr : R.getD row [] = rr at hxr hxb HCR HLR HLIM HSR c1' ⊢
  generalize hpp : rr.getD col 0 = pp at hxb HSR ⊢
  have HRR := Aside0.mk hrr
  clear hrr hpp
  have HM := Aside0.mk (mul_b d pp (k := 9) (by omega))
  have HI := Aside0.mk (inv_b pp (k := 18) (by omega))
  generalize (if pp = 0 then (1 : Int) else 0) = ec at HI
  go_enter Try.func103, Try.ntmps103
  go_wp2_with (first | (go_at_call 68; (with_reducible refine (gf256_Mul.calls 9 _ _ _ _ HM.out).mono ?_); rintro e w' ⟨rfl, ⟨n1, rfl⟩⟩) | (go_at_call 78; (with_reducible refine (gf256_Inv.calls 18 _ _ _ _ HI.out).mono ?_); rintro e w' ⟨rfl, ⟨n2, rfl⟩⟩))
  have hEW := ((HE.out.drewN n1).setDet (gmul d pp)).drewN n2
  have hFW : FrameE w (((w.drewN n1).setCell ⟨gx, 2, none⟩ (.int .u8 (b2i (gmul d pp)))).drewN n2) gx gr := (((FrameE.refl w gx gr).drewN n1).set (p := ⟨gx, 2, none⟩) (.inl rfl) _).drewN n2
  generalize (((w.drewN n1).setCell ⟨gx, 2, none⟩ (.int .u8 (b2i (gmul d pp)))).drewN n2) = W at hEW hFW ⊢
  clear hx0 hx2 hfx2 hfr hxr hxb HCR HLR
  have HEW := Aside0.mk hEW
  have HFW := Aside0.mk hFW
  obtain ⟨hx0, _, _⟩ := hEW.cells
  obtain ⟨A2, co2, hxr, hlr, hCr, hfr⟩ := hEW.read row hrow
  rw [HRR.out] at hxr hlr hCr
  have HCR := Aside0.mk hCr
  have HLR := Aside0.mk hlr
  have HS := Aside0.mk (scale_up rr (ginv pp) HLIM.out)
  have hgl := hEW.ltr
  clear hCr hlr hEW hFW
  go_region_with
    (first | (go_at_call 88; refine (gf256_Scale.calls _ _ (up rr) _ _ _ (by exact Kd.C_drew HCR.out) HLR.out HS.out).mono ?_; rintro e w4 ⟨v4, rfl, hv4, hb4⟩; have hx4 : w4.cell? ⟨gr, row, none⟩ = some (.slice A2 (up rr).length co2) := (hb4.cell hgl).trans hxr; have hf4 : w4.frozen? ⟨gr, row, none⟩ = false := (hb4.frozen hgl).trans hfr; have hx5 : w4.cell? ⟨gx, 0, none⟩ = some (.slice (some ⟨gr, 0, none⟩) R.length c) := (hb4.cell HEW.out.lt).trans hx0; have HV4 := Aside0.mk hv4; have HB4 := Aside0.mk hb4; obtain ⟨A4, c4, rfl⟩ := Kd.R_slice HV4.out; clear hv4 hb4))
  all_goals
    have hP := HEW.out.drew.putRow HB4.out HV4.out row hrow
    have HP := Aside0.mk hP
    have HFN := Aside0.mk (((HFW.out.drew).trans (FrameE.below HB4.out gx gr)).set (p := ⟨gr, row, none⟩) (.inr rfl) (.slice A4 (up (rr.map fun x => gmul x (ginv pp))).length c4))
    clear hP
    go_wp2
    go_end0
    exact ⟨rfl, by rw [HSR.out]; exact HP.out, HFN.out⟩
end Go.Proofs.Ytpkghpljgjlmjaa.K
/- The elimination of package matrix: clear. -/
namespace Go.Proofs.Ytpkghpljgjlmjaa.K
open Go.RowKit Go.Proofs.YtpkghpljgjlmjaaW.PrintWords Go.Proofs.YtpkghpljgjlmjaaW.PrintLast Go.Proofs.YtpkghpljgjlmjaaW.PrintMore Kin
set_option linter.unusedVariables false
set_option linter.unusedSimpArgs false

/-- A row after 'clear': its element in the column becomes 0 by the pivot's row. -/
def clearRow (pr : List B) (col : Nat) (r : List B) : List B := if r.getD col 0 = 0 then r else addS r pr (r.getD col 0)
def clearUpto (R : List (List B)) (row col k : Nat) : List (List B) := R.mapIdx fun i r => if i < k ∧ i ≠ row then clearRow (R.getD row []) col r else r
def clearRows (R : List (List B)) (row col : Nat) : List (List B) := R.mapIdx fun i r => if i ≠ row then clearRow (R.getD row []) col r else r
theorem clearUpto_length (R : List (List B)) (row col k : Nat) : (clearUpto R row col k).length = R.length := by simp [clearUpto]
theorem clearUpto_zero (R : List (List B)) (row col : Nat) : clearUpto R row col 0 = R := by
  unfold clearUpto
  apply List.ext_getElem
  · simp
  · intro i h1 h2
    simp
theorem clearUpto_all (R : List (List B)) (row col : Nat) : clearUpto R row col R.length = clearRows R row col := by
  unfold clearUpto clearRows
  apply List.ext_getElem
  · simp
  · intro i h1 h2
    have : i < R.length := by simpa using h1
    simp [this]
theorem clearUpto_get (R : List (List B)) (row col k i : Nat) (hi : i < R.length) : (clearUpto R row col k).getD i [] = if i < k ∧ i ≠ row then clearRow (R.getD row []) col (R.getD i []) else R.getD i [] := by
  simp [clearUpto, List.getD_eq_getElem?_getD, List.getElem?_mapIdx, List.getElem?_eq_getElem hi]
theorem clearUpto_succ (R : List (List B)) (row col i : Nat) (hi : i < R.length) : clearUpto R row col (i + 1) = (clearUpto R row col i).set i (if i ≠ row then clearRow (R.getD row []) col (R.getD i []) else R.getD i []) := by
  unfold clearUpto
  apply List.ext_getElem
  · simp
  · intro j h1 h2
    have hj : j < R.length := by simpa using h1
    rw [List.getElem_mapIdx, List.getElem_set]
    by_cases hij : i = j
    · subst hij
      simp [List.getD_eq_getElem?_getD, List.getElem?_eq_getElem hi]
    · rw [if_neg hij, List.getElem_mapIdx]
      have : (j < i + 1) ↔ (j < i) := by omega
      simp only [this]
theorem getD_mem' {α : Type} {l : List (List α)} {i : Nat} (h : i < l.length) : l.getD i [] ∈ l := by
  rw [List.getD_eq_getElem?_getD, List.getElem?_eq_getElem h]
  exact List.getElem_mem h
theorem set_getD_self (l : List (List B)) (i : Nat) : l.set i (l.getD i []) = l := by
  apply List.ext_getElem
  · simp
  · intro j h1 h2
    rw [List.getElem_set]
    split
    · rename_i h
      subst h
      simp [List.getD_eq_getElem?_getD, List.getElem?_eq_getElem h2]
    · rfl
def f104.T4 : Bool × List (List Nat × List Nat) := (true, [([], []), ([0], [0]), ([1], [1]), ([2], [2]), ([], []), ([], []), ([5], [5]), ([6], [6]), ([7], [7]), ([], []), ([8, 9], [8, 9]), ([10], [10]), ([], []), ([12], [12]), ([13], [13]), ([14], [14]), ([], []), ([15, 16], [15, 16]), ([17], [17]), ([], []), ([19], [19]), ([20], [20]), ([21], [21]), ([], []), ([22, 23], [22, 23]), ([24], [24]), ([], []), ([25, 26], [25, 26]), ([27], [27]), ([11, 18, 28], [11, 18, 28]), ([29], [29]), ([30], [30]), ([30], [30]), ([3, 4, 0, 1, 2, 3, 4, 5, 6, 7, 8, 9, 10, 11, 12, 13, 14, 15, 16, 17, 18, 19, 20, 21, 22, 23, 24, 25, 26, 27, 28, 29, 30, 31], [3, 4]), ([33, 31, 29, 0, 1, 2, 3, 4, 5, 6, 7, 8, 9, 10, 11, 12, 13, 14, 15, 16, 17, 18, 19, 20, 21, 22, 23, 24, 25, 26, 27, 28, 29, 30, 31], [31, 33])])
def f104.B4 : List Nat := [0, 1, 3, 7, 0, 0, 32, 96, 224, 0, 992, 2016, 0, 4096, 12288, 28672, 0, 126976, 258048, 0, 524288, 1572864, 3670016, 0, 16252928, 33030144, 0, 133693440, 267911168, 536870880, 1073741792, 2147483616, 2147483616, 4294967295, 12884901887]
theorem f104.tab4 : rtab .any (opsOf Try.f104 4) = f104.T4 := by kernel_rfl
theorem f104.bits4 : waitsOk f104.T4.2 f104.B4 = true := by kernel_rfl

set_option maxRecDepth 100000 in
set_option maxHeartbeats 8000000 in
theorem eclear_calls {w : World} {base gx gr c m : Nat} {X : Nat → Prop} {R : List (List B)} {piv : List Int} {d : B} (h : Elim w base gx gr c X R piv d) (row col : Nat) (hrow : row < R.length) (hm : ∀ r ∈ R, r.length = m) (hcol : col < m) (hlim : m ≤ 140737488351232) (hn : R.length ≤ 9223372036854775807) :
    Calls Try.prog 104 #[.pointer (some ⟨gx, 0, none⟩), .int .i64 (row : Int), .int .i64 (col : Int)] w fun e w' => e = .returned (.tuple #[]) ∧ Elim w' base gx gr c X (clearRows R row col) piv d ∧ FrameE w w' gx gr := by
  have hx0 := h.cells.1
  have HEE := Aside0.mk h
  have HM := Aside0.mk hm
  have HLIM := Aside0.mk hlim
  clear h hm hlim
  go_enter Try.func104, Try.ntmps104
  go_wp2
  clear hx0
  go_loopw [12] (fun v12 wr => ∃ i : Nat, i ≤ R.length ∧ v12 = .int .i64 (i : Int) ∧ Aside0 (Elim wr base gx gr c X (clearUpto R row col i) piv d ∧ FrameE w wr gx gr)) (fun v12 _ => R.length - (intOf v12).toNat)
  case atStart => exact ⟨0, by omega, rfl, ⟨by rw [clearUpto_zero]; exact HEE.out, FrameE.refl _ _ _⟩⟩
  case round =>
    obtain ⟨i, hi, rfl, HA⟩ := hrel
    by_cases hlt : i < R.length
    · by_cases hir : i = row
      · have hne : ((i : Int) != (row : Int)) = false := by rw [bne_eq_false_iff_eq]; omega
        have hU : clearUpto R row col (i + 1) = clearUpto R row col i := by
          rw [clearUpto_succ R row col i hlt, if_neg (by simpa using hir)]
          have := set_getD_self (clearUpto R row col i) i
          rw [clearUpto_get R row col i i hlt, if_neg (by omega)] at this
          exact this
        have HU := Aside0.mk hU
        clear hU hir
        go_wp2
        go_roundw
        case rel => exact ⟨i + 1, by omega, by go_num, ⟨by rw [HU.out]; exact HA.out.1, HA.out.2⟩⟩
        case measure => simp [intOf]; omega
      · have hne : ((i : Int) != (row : Int)) = true := by rw [bne_iff_ne]; omega
        obtain ⟨hx0, _, _⟩ := HA.out.1.cells
        obtain ⟨Ai, co, hxi, hli, hCi, hfi⟩ := HA.out.1.read i (by rw [clearUpto_length]; exact hlt)
        rw [clearUpto_get R row col i i hlt, if_neg (by omega)] at hxi hli hCi
        obtain ⟨Ap, cp, hxp, hlp, hCp, _⟩ := HA.out.1.read row (by rw [clearUpto_length]; exact hrow)
        rw [clearUpto_get R row col i row hrow, if_neg (by omega)] at hxp hlp hCp
        have hril := HM.out _ (getD_mem' (l := R) (i := i) hlt)
        have hprl := HM.out _ (getD_mem' (l := R) (i := row) hrow)
        have hU := clearUpto_succ R row col i hlt
        rw [if_pos (by simpa using hir), clearRow] at hU
        generalize hri : R.getD i [] = ri at hxi hli hCi hril hU
        generalize hpr : R.getD row [] = pr at hxp hlp hCp hprl hU
        obtain ⟨ad, e, hxb⟩ := Kd.at_int hCi (col : Int) (by omega) (by rw [up_length]; omega)
        subst e
        rw [Int.toNat_natCast, getD_up] at hxb
        generalize hx : ri.getD col 0 = x at hxb hU
        have HU := Aside0.mk hU
        have HRI := Aside0.mk hri
        have HRIL := Aside0.mk hril
        have HCI := Aside0.mk hCi
        have HCP := Aside0.mk hCp
        have HLI := Aside0.mk hli
        have HLP := Aside0.mk hlp
        have HE := Aside0.mk HA.out.1
        have HF := Aside0.mk HA.out.2
        have i0 : (0 : Int) ≤ (i : Int) := by omega
        have i1 : (i : Int) < ((clearUpto R row col i).length : Int) := by rw [clearUpto_length]; omega
        have r0 : (0 : Int) ≤ (row : Int) := by omega
        have r1 : (row : Int) < ((clearUpto R row col i).length : Int) := by rw [clearUpto_length]; omega
        have c0' : (0 : Int) ≤ (col : Int) := by omega
        have c1' : (col : Int) < ((up ri).length : Int) := by rw [up_length]; omega
        have HMA := Aside0.mk (muladd_up ri pr x (by omega) (by have := HLIM.out; omega) (k := ri.length + 1) (by omega))
        clear hU hri hpr hx hli hCi hlp hCp hril hprl hir
        by_cases hx0' : x = 0
        · have hz : (b2i x != 0) = false := by rw [bne_eq_false_iff_eq, hx0']; rfl
          have HUU := Aside0.mk (show clearUpto R row col (i + 1) = clearUpto R row col i by
            rw [HU.out, if_pos hx0', ← HRI.out]
            have := set_getD_self (clearUpto R row col i) i
            rw [clearUpto_get R row col i i hlt, if_neg (by omega)] at this
            exact this)
          clear hx0'
          go_wp2
          go_roundw
          case rel => exact ⟨i + 1, by omega, by go_num, ⟨by rw [HUU.out]; exact HE.out, HF.out⟩⟩
          case measure => simp [intOf]; omega
        · have hz : (b2i x != 0) = true := by rw [bne_iff_ne]; exact fun e => hx0' (b2i_eq_zero.1 e)
          have HUU := Aside0.mk (show clearUpto R row col (i + 1) = (clearUpto R row col i).set i (addS ri pr x) by rw [HU.out, if_neg hx0'])
          clear hx0'
          go_wp2
          refine start_ (n := 35) (S := fun w' => w'.cell? ⟨gx, 0, none⟩ = some (.slice (some ⟨gr, 0, none⟩) (clearUpto R row col i).length c) ∧ w'.cell? ⟨gr, i, none⟩ = some (.slice (some ad) (up ri).length co) ∧ w'.cell? ⟨gr, row, none⟩ = some (.slice Ap (up pr).length cp) ∧ w'.cell? (ad.add col) = some (.int .u8 (b2i x))) (ds := [34]) #[false, false, false, false, false, false, false, false, false, false, false, false, false, false, false, false, false, false, false, false, false, false, false, false, false, false, false, false, false, false, false, false, false, false, false] (by kernel_rfl) rfl rfl ⟨hx0, hxi, hxp, hxb⟩ (fun hHeld => ?_)
          refine with_tabW f104.tab4 f104.bits4 (fun HT_ HW_ => ?_)
          have hEW := HE.out.drew
          have hFW := HF.out.drew
          have hCi := Kd.C_drew HCI.out
          have hCp := Kd.C_drew HCP.out
          have hb1 := World.block_lt_of_cell? wr _ hxb
          replace hfi : wr.drew.frozen? ⟨gr, i, none⟩ = false := hfi
          replace hb1 : (ad.add col).block < wr.drew.heap.size := hb1
          clear hx0 hxi hxp hxb
          have HEW := Aside0.mk hEW
          have HFW := Aside0.mk hFW
          have HCi := Aside0.mk hCi
          have HCp := Aside0.mk hCp
          clear hEW hFW hCi hCp
          generalize wr.drew = W at HEW HFW HCi HCp hfi hb1 hHeld ⊢
          refine pure_ (i := 0) (N := some 32) (v := ?_) (a' := ?_) #[true, false, false, false, false, false, false, false, false, false, false, false, false, false, false, false, false, false, false, false, false, false, false, false, false, false, false, false, false, false, false, false, false, false, false] rfl rfl (any_of HT_.out (by kernel_rfl)) (fun _ _ _ h => h) (Or.inl ⟨by rfl, ?_⟩) ?_ ?_
          rotate_left
          · intro w'
            go_simp
            with_reducible rfl
          rotate_left
          · simp only [Act.put, List.setIfInBounds_toArray, List.set_cons_zero, List.set_cons_succ, i64_w, i32_w]
            rfl
          refine pure_ (i := 1) (N := some 33) (v := ?_) (a' := ?_) #[true, true, false, false, false, false, false, false, false, false, false, false, false, false, false, false, false, false, false, false, false, false, false, false, false, false, false, false, false, false, false, false, false, false, false] rfl rfl (any_of HT_.out (by kernel_rfl)) (fun _ _ _ h => h) (Or.inl ⟨by rfl, ?_⟩) ?_ ?_
          rotate_left
          · intro w'
            go_simp
            with_reducible rfl
          rotate_left
          · simp only [Act.put, List.setIfInBounds_toArray, List.set_cons_zero, List.set_cons_succ, i64_w, i32_w]
            rfl
          refine pure_ (i := 2) (N := some 34) (v := ?_) (a' := ?_) #[true, true, true, false, false, false, false, false, false, false, false, false, false, false, false, false, false, false, false, false, false, false, false, false, false, false, false, false, false, false, false, false, false, false, false] rfl rfl (any_of HT_.out (by kernel_rfl)) (fun _ _ _ h => h) (Or.inl ⟨by rfl, ?_⟩) ?_ ?_
          rotate_left
          · intro w'
            go_simp
            with_reducible rfl
          rotate_left
          · simp only [Act.put, List.setIfInBounds_toArray, List.set_cons_zero, List.set_cons_succ, i64_w, i32_w]
            rfl
          refine pure_ (i := 4) (N := some 36) (v := ?_) (a' := ?_) #[true, true, true, false, true, false, false, false, false, false, false, false, false, false, false, false, false, false, false, false, false, false, false, false, false, false, false, false, false, false, false, false, false, false, false] rfl rfl (any_of HT_.out (by kernel_rfl)) (fun _ _ _ h => h) (Or.inl ⟨by rfl, ?_⟩) ?_ ?_
          rotate_left
          · intro w'
            go_simp
            with_reducible rfl
          rotate_left
          · simp only [Act.put, List.setIfInBounds_toArray, List.set_cons_zero, List.set_cons_succ, i64_w, i32_w]
            rfl
          refine pure_ (i := 5) (N := some 37) (v := ?_) (a' := ?_) #[true, true, true, false, true, true, false, false, false, false, false, false, false, false, false, false, false, false, false, false, false, false, false, false, false, false, false, false, false, false, false, false, false, false, false] rfl rfl (any_of HT_.out (by kernel_rfl)) (fun _ _ _ h => h) (Or.inl ⟨by rfl, ?_⟩) ?_ ?_
          rotate_left
          · intro w'
            go_simp
            with_reducible rfl
          rotate_left
          · simp only [Act.put, List.setIfInBounds_toArray, List.set_cons_zero, List.set_cons_succ, i64_w, i32_w]
            rfl
          refine pure_ (i := 6) (N := some 38) (v := ?_) (a' := ?_) #[true, true, true, false, true, true, true, false, false, false, false, false, false, false, false, false, false, false, false, false, false, false, false, false, false, false, false, false, false, false, false, false, false, false, false] rfl rfl (any_of HT_.out (by kernel_rfl)) (fun _ _ _ h => h) (Or.inl ⟨by rfl, ?_⟩) ?_ ?_
          rotate_left
          · intro w'
            go_simp
            with_reducible rfl
          rotate_left
          · simp only [Act.put, List.setIfInBounds_toArray, List.set_cons_zero, List.set_cons_succ, i64_w, i32_w]
            rfl
          refine pure_ (i := 7) (N := some 39) (v := ?_) (a' := ?_) #[true, true, true, false, true, true, true, true, false, false, false, false, false, false, false, false, false, false, false, false, false, false, false, false, false, false, false, false, false, false, false, false, false, false, false] rfl rfl (any_of HT_.out (by kernel_rfl)) (fun _ _ _ h => h) (Or.inl ⟨by rfl, ?_⟩) ?_ ?_
          rotate_left
          · intro w'
            go_simp
            with_reducible rfl
          rotate_left
          · simp only [Act.put, List.setIfInBounds_toArray, List.set_cons_zero, List.set_cons_succ, i64_w, i32_w]
            rfl
          refine pure_ (i := 9) (N := some 41) (v := ?_) (a' := ?_) #[true, true, true, false, true, true, true, true, false, true, false, false, false, false, false, false, false, false, false, false, false, false, false, false, false, false, false, false, false, false, false, false, false, false, false] rfl rfl (any_of HT_.out (by kernel_rfl)) (fun _ _ _ h => h) (Or.inl ⟨by rfl, ?_⟩) ?_ ?_
          rotate_left
          · intro w'
            go_simp
            with_reducible rfl
          rotate_left
          · simp only [Act.put, List.setIfInBounds_toArray, List.set_cons_zero, List.set_cons_succ, i64_w, i32_w]
            rfl
          refine pure_ (i := 12) (N := some 44) (v := ?_) (a' := ?_) #[true, true, true, false, true, true, true, true, false, true, false, false, true, false, false, false, false, false, false, false, false, false, false, false, false, false, false, false, false, false, false, false, false, false, false] rfl rfl (any_of HT_.out (by kernel_rfl)) (fun _ _ _ h => h) (Or.inl ⟨by rfl, ?_⟩) ?_ ?_
          rotate_left
          · intro w'
            go_simp
            with_reducible rfl
          rotate_left
          · simp only [Act.put, List.setIfInBounds_toArray, List.set_cons_zero, List.set_cons_succ, i64_w, i32_w]
            rfl
          refine pure_ (i := 13) (N := some 45) (v := ?_) (a' := ?_) #[true, true, true, false, true, true, true, true, false, true, false, false, true, true, false, false, false, false, false, false, false, false, false, false, false, false, false, false, false, false, false, false, false, false, false] rfl rfl (any_of HT_.out (by kernel_rfl)) (fun _ _ _ h => h) (Or.inl ⟨by rfl, ?_⟩) ?_ ?_
          rotate_left
          · intro w'
            go_simp
            with_reducible rfl
          rotate_left
          · simp only [Act.put, List.setIfInBounds_toArray, List.set_cons_zero, List.set_cons_succ, i64_w, i32_w]
            rfl
          refine pure_ (i := 14) (N := some 46) (v := ?_) (a' := ?_) #[true, true, true, false, true, true, true, true, false, true, false, false, true, true, true, false, false, false, false, false, false, false, false, false, false, false, false, false, false, false, false, false, false, false, false] rfl rfl (any_of HT_.out (by kernel_rfl)) (fun _ _ _ h => h) (Or.inl ⟨by rfl, ?_⟩) ?_ ?_
          rotate_left
          · intro w'
            go_simp
            with_reducible rfl
          rotate_left
          · simp only [Act.put, List.setIfInBounds_toArray, List.set_cons_zero, List.set_cons_succ, i64_w, i32_w]
            rfl
          refine pure_ (i := 16) (N := some 48) (v := ?_) (a' := ?_) #[true, true, true, false, true, true, true, true, false, true, false, false, true, true, true, false, true, false, false, false, false, false, false, false, false, false, false, false, false, false, false, false, false, false, false] rfl rfl (any_of HT_.out (by kernel_rfl)) (fun _ _ _ h => h) (Or.inl ⟨by rfl, ?_⟩) ?_ ?_
          rotate_left
          · intro w'
            go_simp
            with_reducible rfl
          rotate_left
          · simp only [Act.put, List.setIfInBounds_toArray, List.set_cons_zero, List.set_cons_succ, i64_w, i32_w]
            rfl
          refine pure_ (i := 19) (N := some 51) (v := ?_) (a' := ?_) #[true, true, true, false, true, true, true, true, false, true, false, false, true, true, true, false, true, false, false, true, false, false, false, false, false, false, false, false, false, false, false, false, false, false, false] rfl rfl (any_of HT_.out (by kernel_rfl)) (fun _ _ _ h => h) (Or.inl ⟨by rfl, ?_⟩) ?_ ?_
          rotate_left
          · intro w'
            go_simp
            with_reducible rfl
          rotate_left
          · simp only [Act.put, List.setIfInBounds_toArray, List.set_cons_zero, List.set_cons_succ, i64_w, i32_w]
            rfl
          refine pure_ (i := 20) (N := some 52) (v := ?_) (a' := ?_) #[true, true, true, false, true, true, true, true, false, true, false, false, true, true, true, false, true, false, false, true, true, false, false, false, false, false, false, false, false, false, false, false, false, false, false] rfl rfl (any_of HT_.out (by kernel_rfl)) (fun _ _ _ h => h) (Or.inl ⟨by rfl, ?_⟩) ?_ ?_
          rotate_left
          · intro w'
            go_simp
            with_reducible rfl
          rotate_left
          · simp only [Act.put, List.setIfInBounds_toArray, List.set_cons_zero, List.set_cons_succ, i64_w, i32_w]
            rfl
          refine pure_ (i := 21) (N := some 53) (v := ?_) (a' := ?_) #[true, true, true, false, true, true, true, true, false, true, false, false, true, true, true, false, true, false, false, true, true, true, false, false, false, false, false, false, false, false, false, false, false, false, false] rfl rfl (any_of HT_.out (by kernel_rfl)) (fun _ _ _ h => h) (Or.inl ⟨by rfl, ?_⟩) ?_ ?_
          rotate_left
          · intro w'
            go_simp
            with_reducible rfl
          rotate_left
          · simp only [Act.put, List.setIfInBounds_toArray, List.set_cons_zero, List.set_cons_succ, i64_w, i32_w]
            rfl
          refine pure_ (i := 23) (N := some 55) (v := ?_) (a' := ?_) #[true, true, true, false, true, true, true, true, false, true, false, false, true, true, true, false, true, false, false, true, true, true, false, true, false, false, false, false, false, false, false, false, false, false, false] rfl rfl (any_of HT_.out (by kernel_rfl)) (fun _ _ _ h => h) (Or.inl ⟨by rfl, ?_⟩) ?_ ?_
          rotate_left
          · intro w'
            go_simp
            with_reducible rfl
          rotate_left
          · simp only [Act.put, List.setIfInBounds_toArray, List.set_cons_zero, List.set_cons_succ, i64_w, i32_w]
            rfl
          refine pure_ (i := 26) (N := some 58) (v := ?_) (a' := ?_) #[true, true, true, false, true, true, true, true, false, true, false, false, true, true, true, false, true, false, false, true, true, true, false, true, false, false, true, false, false, false, false, false, false, false, false] rfl rfl (any_of HT_.out (by kernel_rfl)) (fun _ _ _ h => h) (Or.inl ⟨by rfl, ?_⟩) ?_ ?_
          rotate_left
          · intro w'
            go_simp
            with_reducible rfl
          rotate_left
          · simp only [Act.put, List.setIfInBounds_toArray, List.set_cons_zero, List.set_cons_succ, i64_w, i32_w]
            rfl
          refine take_ (i := 3) (N := some 35) (v := ?_) (a' := ?_) #[true, true, true, true, true, true, true, true, false, true, false, false, true, true, true, false, true, false, false, true, true, true, false, true, false, false, true, false, false, false, false, false, false, false, false] rfl rfl (take_ofW HT_.out HW_.out (by kernel_rfl)) (fun _ _ _ h => h) (Or.inl ⟨by rfl, ?_⟩) hHeld ?_ ?_
          rotate_left
          · rintro w' ⟨s0, s1, s2, s3⟩
            go_simp
            with_reducible rfl
          rotate_left
          · simp only [Act.put, List.setIfInBounds_toArray, List.set_cons_zero, List.set_cons_succ, i64_w, i32_w]
            rfl
          refine take_ (i := 8) (N := some 40) (v := ?_) (a' := ?_) #[true, true, true, true, true, true, true, true, true, true, false, false, true, true, true, false, true, false, false, true, true, true, false, true, false, false, true, false, false, false, false, false, false, false, false] rfl rfl (take_ofW HT_.out HW_.out (by kernel_rfl)) (fun _ _ _ h => h) (Or.inl ⟨by rfl, ?_⟩) hHeld ?_ ?_
          rotate_left
          · rintro w' ⟨s0, s1, s2, s3⟩
            go_simp
            with_reducible rfl
          rotate_left
          · simp only [Act.put, List.setIfInBounds_toArray, List.set_cons_zero, List.set_cons_succ, i64_w, i32_w]
            rfl
          refine pure_ (i := 10) (N := some 42) (v := ?_) (a' := ?_) #[true, true, true, true, true, true, true, true, true, true, true, false, true, true, true, false, true, false, false, true, true, true, false, true, false, false, true, false, false, false, false, false, false, false, false] rfl rfl (any_of HT_.out (by kernel_rfl)) (fun _ _ _ h => h) (Or.inl ⟨by rfl, ?_⟩) ?_ ?_
          rotate_left
          · intro w'
            go_simp
            with_reducible rfl
          rotate_left
          · simp only [Act.put, List.setIfInBounds_toArray, List.set_cons_zero, List.set_cons_succ, i64_w, i32_w]
            rfl
          refine take_ (i := 11) (N := some 43) (v := ?_) (a' := ?_) #[true, true, true, true, true, true, true, true, true, true, true, true, true, true, true, false, true, false, false, true, true, true, false, true, false, false, true, false, false, false, false, false, false, false, false] rfl rfl (take_ofW HT_.out HW_.out (by kernel_rfl)) (fun _ _ _ h => h) (Or.inl ⟨by rfl, ?_⟩) hHeld ?_ ?_
          rotate_left
          · rintro w' ⟨s0, s1, s2, s3⟩
            go_simp
            with_reducible rfl
          rotate_left
          · simp only [Act.put, List.setIfInBounds_toArray, List.set_cons_zero, List.set_cons_succ, i64_w, i32_w]
            rfl
          refine take_ (i := 15) (N := some 47) (v := ?_) (a' := ?_) #[true, true, true, true, true, true, true, true, true, true, true, true, true, true, true, true, true, false, false, true, true, true, false, true, false, false, true, false, false, false, false, false, false, false, false] rfl rfl (take_ofW HT_.out HW_.out (by kernel_rfl)) (fun _ _ _ h => h) (Or.inl ⟨by rfl, ?_⟩) hHeld ?_ ?_
          rotate_left
          · rintro w' ⟨s0, s1, s2, s3⟩
            go_simp
            with_reducible rfl
          rotate_left
          · simp only [Act.put, List.setIfInBounds_toArray, List.set_cons_zero, List.set_cons_succ, i64_w, i32_w]
            rfl
          refine pure_ (i := 17) (N := some 49) (v := ?_) (a' := ?_) #[true, true, true, true, true, true, true, true, true, true, true, true, true, true, true, true, true, true, false, true, true, true, false, true, false, false, true, false, false, false, false, false, false, false, false] rfl rfl (any_of HT_.out (by kernel_rfl)) (fun _ _ _ h => h) (Or.inl ⟨by rfl, ?_⟩) ?_ ?_
          rotate_left
          · intro w'
            go_simp
            with_reducible rfl
          rotate_left
          · simp only [Act.put, List.setIfInBounds_toArray, List.set_cons_zero, List.set_cons_succ, i64_w, i32_w]
            rfl
          refine take_ (i := 18) (N := some 50) (v := ?_) (a' := ?_) #[true, true, true, true, true, true, true, true, true, true, true, true, true, true, true, true, true, true, true, true, true, true, false, true, false, false, true, false, false, false, false, false, false, false, false] rfl rfl (take_ofW HT_.out HW_.out (by kernel_rfl)) (fun _ _ _ h => h) (Or.inl ⟨by rfl, ?_⟩) hHeld ?_ ?_
          rotate_left
          · rintro w' ⟨s0, s1, s2, s3⟩
            go_simp
            with_reducible rfl
          rotate_left
          · simp only [Act.put, List.setIfInBounds_toArray, List.set_cons_zero, List.set_cons_succ, i64_w, i32_w]
            rfl
          refine take_ (i := 22) (N := some 54) (v := ?_) (a' := ?_) #[true, true, true, true, true, true, true, true, true, true, true, true, true, true, true, true, true, true, true, true, true, true, true, true, false, false, true, false, false, false, false, false, false, false, false] rfl rfl (take_ofW HT_.out HW_.out (by kernel_rfl)) (fun _ _ _ h => h) (Or.inl ⟨by rfl, ?_⟩) hHeld ?_ ?_
          rotate_left
          · rintro w' ⟨s0, s1, s2, s3⟩
            go_simp
            with_reducible rfl
          rotate_left
          · simp only [Act.put, List.setIfInBounds_toArray, List.set_cons_zero, List.set_cons_succ, i64_w, i32_w]
            rfl
          refine pure_ (i := 24) (N := some 56) (v := ?_) (a' := ?_) #[true, true, true, true, true, true, true, true, true, true, true, true, true, true, true, true, true, true, true, true, true, true, true, true, true, false, true, false, false, false, false, false, false, false, false] rfl rfl (any_of HT_.out (by kernel_rfl)) (fun _ _ _ h => h) (Or.inl ⟨by rfl, ?_⟩) ?_ ?_
          rotate_left
          · intro w'
            go_simp
            with_reducible rfl
          rotate_left
          · simp only [Act.put, List.setIfInBounds_toArray, List.set_cons_zero, List.set_cons_succ, i64_w, i32_w]
            rfl
          refine take_ (i := 25) (N := some 57) (v := ?_) (a' := ?_) #[true, true, true, true, true, true, true, true, true, true, true, true, true, true, true, true, true, true, true, true, true, true, true, true, true, true, true, false, false, false, false, false, false, false, false] rfl rfl (take_ofW HT_.out HW_.out (by kernel_rfl)) (fun _ _ _ h => h) (Or.inl ⟨by rfl, ?_⟩) hHeld ?_ ?_
          rotate_left
          · rintro w' ⟨s0, s1, s2, s3⟩
            go_simp
            with_reducible rfl
          rotate_left
          · simp only [Act.put, List.setIfInBounds_toArray, List.set_cons_zero, List.set_cons_succ, i64_w, i32_w]
            rfl
          refine pure_ (i := 27) (N := some 59) (v := ?_) (a' := ?_) #[true, true, true, true, true, true, true, true, true, true, true, true, true, true, true, true, true, true, true, true, true, true, true, true, true, true, true, true, false, false, false, false, false, false, false] rfl rfl (any_of HT_.out (by kernel_rfl)) (fun _ _ _ h => h) (Or.inl ⟨by rfl, ?_⟩) ?_ ?_
          rotate_left
          · intro w'
            go_simp
            with_reducible rfl
          rotate_left
          · simp only [Act.put, List.setIfInBounds_toArray, List.set_cons_zero, List.set_cons_succ, i64_w, i32_w]
            rfl
          refine take_ (i := 28) (N := some 60) (v := ?_) (a' := ?_) #[true, true, true, true, true, true, true, true, true, true, true, true, true, true, true, true, true, true, true, true, true, true, true, true, true, true, true, true, true, false, false, false, false, false, false] rfl rfl (take_ofW HT_.out HW_.out (by kernel_rfl)) (fun _ _ _ h => h) (Or.inl ⟨by rfl, ?_⟩) hHeld ?_ ?_
          rotate_left
          · rintro w' ⟨s0, s1, s2, s3⟩
            go_simp
            with_reducible rfl
          rotate_left
          · simp only [Act.put, List.setIfInBounds_toArray, List.set_cons_zero, List.set_cons_succ, i64_w, i32_w]
            rfl
          refine one_ (i := 29) (N := some 61) #[true, true, true, true, true, true, true, true, true, true, true, true, true, true, true, true, true, true, true, true, true, true, true, true, true, true, true, true, true, true, false, false, false, false, false] rfl rfl (one_of HT_.out (by kernel_rfl)) (by decide) (fun K hK => ?_)
          refine goes_ Try.func66 (by kernel_rfl) rfl #[.slice (some ad) (up ri).length co, .slice Ap (up pr).length cp, .int .u8 (b2i x)] (by rfl) rfl rfl (by (try simp only [List.map_toArray, List.map_cons, List.map_nil]); first | done | rfl | (simp only [List.length_drop, List.length_take]; rfl)) ?_
          with_reducible refine (gf256_MulAdd.calls (ri.length + 1) _ _ (up ri) _ _ (up pr) _ _ _ _ HCi.out HLI.out HCp.out HLP.out HMA.out).mono ?_
          rintro e w4 ⟨v4, rfl, hv4, hb4⟩
          refine ⟨_, rfl, ?_⟩
          obtain ⟨A4, c4, rfl⟩ := Kd.R_slice hv4
          have HV4 := Aside0.mk hv4
          have HB4 := Aside0.mk hb4
          have hf4 : w4.frozen? ⟨gr, i, none⟩ = false := (hb4.frozen HEW.out.ltr).trans hfi
          refine hK.out _ _ ⟨(hb4.cell HEW.out.lt).trans hHeld.1, (hb4.cell HEW.out.ltr).trans hHeld.2.1, (hb4.cell HEW.out.ltr).trans hHeld.2.2.1, (hb4.cell hb1).trans hHeld.2.2.2⟩ (fun hHeld => ?_)
          clear hv4 hb4
          have hxr4 := hHeld.2.1
          clear hK K
          refine norm_ (a' := ?_) ?_ ?_
          rotate_left
          · show Act.put _ (some 61) _ = _
            simp only [Act.put, List.setIfInBounds_toArray, List.set_cons_zero, List.set_cons_succ, i64_w, i32_w]
            rfl
          refine pure_ (i := 30) (N := some 31) (v := ?_) (a' := ?_) #[true, true, true, true, true, true, true, true, true, true, true, true, true, true, true, true, true, true, true, true, true, true, true, true, true, true, true, true, true, true, true, false, false, false, false] rfl rfl (any_of HT_.out (by kernel_rfl)) (fun _ _ _ h => h) (Or.inl ⟨by rfl, ?_⟩) ?_ ?_
          rotate_left
          · intro w'
            go_simp
            with_reducible rfl
          rotate_left
          · simp only [Act.put, List.setIfInBounds_toArray, List.set_cons_zero, List.set_cons_succ, i64_w, i32_w]
            rfl
          refine pure_ (i := 31) (N := some 62) (v := ?_) (a' := ?_) #[true, true, true, true, true, true, true, true, true, true, true, true, true, true, true, true, true, true, true, true, true, true, true, true, true, true, true, true, true, true, true, true, false, false, false] rfl rfl (any_of HT_.out (by kernel_rfl)) (fun _ _ _ h => h) (Or.inl ⟨by rfl, ?_⟩) ?_ ?_
          rotate_left
          · intro w'
            go_simp
            with_reducible rfl
          rotate_left
          · simp only [Act.put, List.setIfInBounds_toArray, List.set_cons_zero, List.set_cons_succ, i64_w, i32_w]
            rfl
          refine pure_ (i := 32) (N := some 63) (v := ?_) (a' := ?_) #[true, true, true, true, true, true, true, true, true, true, true, true, true, true, true, true, true, true, true, true, true, true, true, true, true, true, true, true, true, true, true, true, true, false, false] rfl rfl (any_of HT_.out (by kernel_rfl)) (fun _ _ _ h => h) (Or.inl ⟨by rfl, ?_⟩) ?_ ?_
          rotate_left
          · intro w'
            go_simp
            with_reducible rfl
          rotate_left
          · simp only [Act.put, List.setIfInBounds_toArray, List.set_cons_zero, List.set_cons_succ, i64_w, i32_w]
            rfl
          refine pure_ (i := 33) (N := some 64) (v := ?_) (a' := ?_) #[true, true, true, true, true, true, true, true, true, true, true, true, true, true, true, true, true, true, true, true, true, true, true, true, true, true, true, true, true, true, true, true, true, true, false] rfl rfl (any_of HT_.out (by kernel_rfl)) (fun _ _ _ h => h) (Or.inl ⟨by rfl, ?_⟩) ?_ ?_
          rotate_left
          · intro w'
            go_simp
            with_reducible rfl
          rotate_left
          · simp only [Act.put, List.setIfInBounds_toArray, List.set_cons_zero, List.set_cons_succ, i64_w, i32_w]
            rfl
          refine last_ (i := 34) (N := none) #[true, true, true, true, true, true, true, true, true, true, true, true, true, true, true, true, true, true, true, true, true, true, true, true, true, true, true, true, true, true, true, true, true, true, true] rfl rfl (one_of HT_.out (by kernel_rfl)) (by decide) (fun K hK => ?_)
          refine skip_ (w1 := ?_) (by rfl) rfl ?_ ?_
          rotate_left
          · go_simp
            rfl
          refine hK.out _ _ ?_
          clear hK K
          refine done_ (done_of HT_.out (by kernel_rfl)) ?_
          have hP := HEW.out.putRow HB4.out HV4.out i (by rw [clearUpto_length]; exact hlt)
          have HP := Aside0.mk hP
          have HFN := Aside0.mk ((HFW.out.trans (FrameE.below HB4.out gx gr)).set (p := ⟨gr, i, none⟩) (.inr rfl) (.slice A4 (up (addS ri pr x)).length c4))
          clear hP
          go_wp2
          go_roundw
          case rel => exact ⟨i + 1, by omega, by go_num, ⟨by rw [HUU.out]; exact HP.out, HFN.out⟩⟩
          case measure => simp [intOf]; omega
    · obtain rfl : i = R.length := by omega
      have hU := HA.out.1
      rw [clearUpto_all] at hU
      have HU := Aside0.mk hU
      clear hU
      go_wp2
      go_end0
      exact ⟨rfl, HU.out, HA.out.2⟩
end Go.Proofs.Ytpkghpljgjlmjaa.K
/- The elimination of package matrix: the closure find of run. -/
namespace Go.Proofs.Ytpkghpljgjlmjaa.K
open Go.RowKit Go.Proofs.YtpkghpljgjlmjaaW.PrintWords Go.Proofs.YtpkghpljgjlmjaaW.PrintLast Go.Proofs.YtpkghpljgjlmjaaW.PrintMore Kin
set_option linter.unusedVariables false
set_option linter.unusedSimpArgs false

/-- The first row from row on with an element other than 0 in the column. -/
def findRow (R : List (List B)) (row col : Nat) : Option Nat := (List.range R.length).find? fun i => decide (row ≤ i) && decide ((R.getD i []).getD col 0 ≠ 0)
def findInt (R : List (List B)) (row col : Nat) : Int := match findRow R row col with | some i => (i : Int) | none => -1
theorem findInt_some {R : List (List B)} {row col i : Nat} (hi : i < R.length) (hr : row ≤ i) (hx : (R.getD i []).getD col 0 ≠ 0) (hb : ∀ j, row ≤ j → j < i → (R.getD j []).getD col 0 = 0) : findInt R row col = i := by
  have : findRow R row col = some i := by
    unfold findRow
    rw [List.find?_range_eq_some]
    refine ⟨by simp [hr, hx, -List.getD_eq_getElem?_getD], by simpa using hi, fun j hj => ?_⟩
    by_cases h : row ≤ j
    · simp [hb j h hj, -List.getD_eq_getElem?_getD]
    · simp [h]
  unfold findInt
  rw [this]
theorem findInt_none {R : List (List B)} {row col : Nat} (hb : ∀ j, row ≤ j → j < R.length → (R.getD j []).getD col 0 = 0) : findInt R row col = -1 := by
  have : findRow R row col = none := by
    unfold findRow
    rw [List.find?_range_eq_none]
    intro j hj
    by_cases h : row ≤ j
    · simp [hb j h hj, -List.getD_eq_getElem?_getD]
    · simp [h]
  unfold findInt
  rw [this]
set_option maxRecDepth 100000 in
set_option maxHeartbeats 2000000 in
theorem find_calls {w : World} {base gx gr c m : Nat} {X : Nat → Prop} {R : List (List B)} {piv : List Int} {d : B} (h : Elim w base gx gr c X R piv d) (grow gbx gcol row col : Nat)
    (hb : w.cell? ⟨gbx, 0, none⟩ = some (.pointer (some ⟨gx, 0, none⟩))) (hr : w.cell? ⟨grow, 0, none⟩ = some (.int .i64 (row : Int))) (hc : w.cell? ⟨gcol, 0, none⟩ = some (.int .i64 (col : Int)))
    (hm : ∀ r ∈ R, r.length = m) (hcol : col < m) (hrow : row ≤ R.length) (hlim : m ≤ 140737488351232) (hn : R.length ≤ 9223372036854775807) :
    Calls Try.prog 102 #[.pointer (some ⟨grow, 0, none⟩), .pointer (some ⟨gbx, 0, none⟩), .pointer (some ⟨gcol, 0, none⟩)] w fun e w' => e = .returned (.int .i64 (findInt R row col)) ∧ Drawn0 w w' := by
  have hx0 := h.cells.1
  have HE := Aside0.mk h
  have HM := Aside0.mk hm
  clear h hm
  go_enter Try.func102, Try.ntmps102
  go_wp2
  go_loopw [4] (fun v4 wr => ∃ i : Nat, row ≤ i ∧ i ≤ R.length ∧ v4 = .int .i64 (i : Int) ∧ Aside0 ((∀ j, row ≤ j → j < i → (R.getD j []).getD col 0 = 0) ∧ Drawn0 w wr)) (fun v4 _ => R.length - (intOf v4).toNat)
  case atStart => exact ⟨row, Nat.le_refl _, hrow, rfl, ⟨fun j h1 h2 => absurd h2 (by omega), Drawn0.refl _⟩⟩
  case round =>
    obtain ⟨i, hri, hi, rfl, HA⟩ := hrel
    obtain ⟨n1, hn1⟩ := HA.out.2.out
    subst hn1
    by_cases hlt : i < R.length
    · obtain ⟨Ai, co, hxi, hli, hCi, _⟩ := HE.out.read i hlt
      have hril := HM.out _ (getD_mem' (l := R) (i := i) hlt)
      generalize hrr : R.getD i [] = ri at hxi hli hCi hril
      obtain ⟨ad, e, hxb⟩ := Kd.at_int hCi (col : Int) (by omega) (by rw [up_length]; omega)
      subst e
      rw [Int.toNat_natCast, getD_up] at hxb
      generalize hxx : ri.getD col 0 = x at hxb
      have HRR := Aside0.mk hrr
      have HXX := Aside0.mk hxx
      have i0 : (0 : Int) ≤ (i : Int) := by omega
      have i1 : (i : Int) < (R.length : Int) := by omega
      have c0' : (0 : Int) ≤ (col : Int) := by omega
      have c1' : (col : Int) < ((up ri).length : Int) := by rw [up_length]; omega
      clear hrr hxx hli hCi hril
      by_cases hx0' : x = 0
      · have hz : (b2i x != 0) = false := by rw [bne_eq_false_iff_eq, hx0']; rfl
        have HZ := Aside0.mk hx0'
        clear hx0'
        go_wp2
        go_quiet (fail)
        go_wp2
        go_roundw
        case rel =>
          refine ⟨i + 1, by omega, by omega, by go_num, ⟨fun j h1 h2 => ?_, ⟨⟨_, rfl⟩⟩⟩⟩
          by_cases hji : j = i
          · subst hji
            rw [HRR.out, HXX.out, HZ.out]
          · exact HA.out.1 j h1 (by omega)
        case measure => simp [intOf]; omega
      · have hz : (b2i x != 0) = true := by rw [bne_iff_ne]; exact fun e => hx0' (b2i_eq_zero.1 e)
        have HF := Aside0.mk (findInt_some hlt hri (by rw [HRR.out, HXX.out]; exact hx0') HA.out.1)
        clear hx0'
        go_wp2
        go_quiet (fail)
        go_wp2
        go_ret
        exact ⟨by rw [HF.out]; rfl, HA.out.2.step _⟩
    · obtain rfl : i = R.length := by omega
      have HF := Aside0.mk (findInt_none HA.out.1)
      go_wp2
      go_ret
      exact ⟨by rw [HF.out]; rfl, HA.out.2⟩
end Go.Proofs.Ytpkghpljgjlmjaa.K
/- Words of this claim's own: two rows of a row of rows change their places. -/
namespace Go.Proofs.Ytpkghpljgjlmjaa.K
open Go.RowKit Go.Proofs.YtpkghpljgjlmjaaW.PrintWords Go.Proofs.YtpkghpljgjlmjaaW.PrintLast Go.Proofs.YtpkghpljgjlmjaaW.PrintMore
set_option linter.unusedVariables false

theorem swap_at {α : Type} (l : List α) (i j m : Nat) (x y : α) (hx : l[i]? = some x) (hy : l[j]? = some y) : ((l.set i y).set j x)[m]? = if m = j then some x else if m = i then some y else l[m]? := by
  have hi := (List.getElem?_eq_some_iff.1 hx).1
  have hj := (List.getElem?_eq_some_iff.1 hy).1
  by_cases h1 : m = j
  · subst h1
    rw [if_pos rfl, List.getElem?_set_self (by simpa using hj)]
  · rw [if_neg h1, List.getElem?_set_ne (by omega)]
    by_cases h2 : m = i
    · subst h2
      rw [if_pos rfl, List.getElem?_set_self hi]
    · rw [if_neg h2, List.getElem?_set_ne (by omega)]
section
variable {W : World} {base g n cap : Nat} {xs : List (List Int)}
theorem S_swap (hS : Kd.S D 34 W base (fun _ => True) (.slice (some ⟨g, 0, none⟩) n cap) xs) (i j : Nat) (x y : List Int) (vi vj : Value) (hx : xs[i]? = some x) (hy : xs[j]? = some y)
    (hvi : W.cell? ⟨g, i, none⟩ = some vi) (hvj : W.cell? ⟨g, j, none⟩ = some vj) :
    Kd.S D 34 ((W.setCell ⟨g, i, none⟩ vj).setCell ⟨g, j, none⟩ vi) base (fun _ => True) (.slice (some ⟨g, 0, none⟩) n cap) ((xs.set i y).set j x) := by
  obtain ⟨f, h0, inner, ho, hr⟩ := hS
  rw [List.length_zipIdx] at ho
  have hi := (List.getElem?_eq_some_iff.1 hx).1
  have hj := (List.getElem?_eq_some_iff.1 hy).1
  have hlen : inner.length = xs.length := by
    have := hr.1
    rw [List.length_zipIdx] at this
    have e : inner.length = xs.length * 1 := this
    omega
  have hini : inner[i]? = some vi := by
    have hc := ho.cells (g := g) rfl i inner[i] (List.getElem?_eq_getElem (by omega))
    rw [add_plain] at hc
    rw [List.getElem?_eq_getElem (by omega)]
    exact hc.symm.trans hvi
  have hinj : inner[j]? = some vj := by
    have hc := ho.cells (g := g) rfl j inner[j] (List.getElem?_eq_getElem (by omega))
    rw [add_plain] at hc
    rw [List.getElem?_eq_getElem (by omega)]
    exact hc.symm.trans hvj
  have hn : n = xs.length := by
    rcases ho.2 with ⟨he, _⟩ | ⟨g', cap', cur, he, _⟩
    · cases he
    · injection he
  subst hn
  have ho1 := (ho.stored i vj).1
  have ho2 := (ho1.stored j vi).1
  have hxl : ((xs.set i y).set j x).length = xs.length := by simp
  refine ⟨fun k => if f k = i then j else if f k = j then i else f k, h0, (inner.set i vj).set j vi, ?_, ?_, ?_⟩
  · rw [List.length_zipIdx, hxl]
    exact ho2
  · rw [List.length_zipIdx, hxl]
    show _ = xs.length * 1
    simp only [List.length_set]
    omega
  · intro m p hp
    rw [List.getElem?_zipIdx, Nat.zero_add, swap_at xs i j m x y hx hy] at hp
    have hz : (D).sz = 1 := rfl
    have hone : ∀ (l : List Value) (q : Nat) (u : Value), l[q]? = some u → (l.drop (q * 1)).take 1 = [u] := by
      intro l q u hu
      have hq := (List.getElem?_eq_some_iff.1 hu).1
      rw [Nat.mul_one, List.drop_eq_getElem_cons hq, List.take_succ_cons, List.take_zero]
      congr 1
      exact (List.getElem?_eq_some_iff.1 hu).2
    have key : ∀ (q : Nat) (z : List Int) (u : Value), xs[q]? = some z → inner[q]? = some u → (Kd.tag f D).M W base (fun k => True ∧ some k ≠ (Value.slice (some ⟨g, 0, none⟩) xs.length cap).ownBlock) (z, q) [u] := by
      intro q z u hz hu
      have h2 := hr.2 q (z, q) (by rw [List.getElem?_zipIdx, hz, Nat.zero_add]; rfl)
      have e : (inner.drop (q * 1)).take 1 = [u] := hone inner q u hu
      rw [show (Kd.tag f D).sz = 1 from rfl, e] at h2
      exact h2
    have move : ∀ (q m : Nat) (z : List Int) (u : Value), (Kd.tag f D).M W base (fun k => True ∧ some k ≠ (Value.slice (some ⟨g, 0, none⟩) xs.length cap).ownBlock) (z, q) [u] →
        (∀ k, f k = q → (if f k = i then j else if f k = j then i else f k) = m) →
        (Kd.tag (fun k => if f k = i then j else if f k = j then i else f k) D).M ((W.setCell ⟨g, i, none⟩ vj).setCell ⟨g, j, none⟩ vi) base (fun k => True ∧ some k ≠ (Value.slice (some ⟨g, 0, none⟩) xs.length cap).ownBlock) (z, m) [u] := by
      intro q m z u h hf
      have h2 : (D).M W base (fun k => (True ∧ some k ≠ (Value.slice (some ⟨g, 0, none⟩) xs.length cap).ownBlock) ∧ f k = q) z [u] := h
      have hne : ∀ k, ((True ∧ some k ≠ (Value.slice (some ⟨g, 0, none⟩) xs.length cap).ownBlock) ∧ f k = q) → k ≠ g := fun k hk e => hk.1.2 (by rw [e]; rfl)
      have h3 := Kd.M_far (p := ⟨g, j, none⟩) (Kd.M_far (p := ⟨g, i, none⟩) h2 hne vj) hne vi
      show (D).M _ base (fun k => (True ∧ some k ≠ (Value.slice (some ⟨g, 0, none⟩) xs.length cap).ownBlock) ∧ (if f k = i then j else if f k = j then i else f k) = m) z [u]
      exact (D).M_mono (fun k hk => ⟨hk.1, hf k hk.2⟩) h3
    rw [show (Kd.tag (fun k => if f k = i then j else if f k = j then i else f k) D).sz = 1 from rfl]
    by_cases h1 : m = j
    · subst h1
      rw [if_pos rfl] at hp
      have hp' : (x, m) = p := by simpa using hp
      subst hp'
      rw [hone _ m vi (by rw [swap_at inner i m m vi vj hini hinj, if_pos rfl])]
      exact move i m x vi (key i x vi hx hini) (fun k hk => by rw [if_pos hk])
    · rw [if_neg h1] at hp
      by_cases h2 : m = i
      · subst h2
        rw [if_pos rfl] at hp
        have hp' : (y, m) = p := by simpa using hp
        subst hp'
        rw [hone _ m vj (by rw [swap_at inner m j m vi vj hini hinj, if_neg h1, if_pos rfl])]
        exact move j m y vj (key j y vj hy hinj) (fun k hk => by
          by_cases h3 : f k = m
          · omega
          · rw [if_neg h3, if_pos hk])
      · rw [if_neg h2] at hp
        obtain ⟨z, hz, rfl⟩ := Option.map_eq_some_iff.1 hp
        have hm := (List.getElem?_eq_some_iff.1 hz).1
        have hu : inner[m]? = some inner[m] := List.getElem?_eq_getElem (by omega)
        rw [hone _ m inner[m] (by rw [swap_at inner i j m vi vj hini hinj, if_neg h1, if_neg h2]; exact hu)]
        exact move m m z _ (key m z _ hz hu) (fun k hk => by rw [if_neg (by omega), if_neg (by omega)]; exact hk)
end
end Go.Proofs.Ytpkghpljgjlmjaa.K
/- The elimination of package matrix: run and eliminate. -/
namespace Go.Proofs.Ytpkghpljgjlmjaa.K
open Go.RowKit Go.Proofs.YtpkghpljgjlmjaaW.PrintWords Go.Proofs.YtpkghpljgjlmjaaW.PrintLast Go.Proofs.YtpkghpljgjlmjaaW.PrintMore Kin
set_option linter.unusedVariables false
set_option linter.unusedSimpArgs false

def swapRows (R : List (List B)) (i j : Nat) : List (List B) := (R.set i (R.getD j [])).set j (R.getD i [])
/-- An elimination: its rows, its pivot columns, its determinant. -/
abbrev ES := List (List B) × List Nat × B
def elimStep (s : ES) (col : Nat) : ES :=
  match findRow s.1 s.2.1.length col with
  | none => s
  | some k => (clearRows (scaleRow (swapRows s.1 s.2.1.length k) s.2.1.length col) s.2.1.length col, s.2.1 ++ [col], gmul s.2.2 (((swapRows s.1 s.2.1.length k).getD s.2.1.length []).getD col 0))
def elimRun (R : List (List B)) (cols : Nat) : ES := (List.range cols).foldl elimStep (R, [], 1)
theorem elimRun_succ (R : List (List B)) (cols : Nat) : elimRun R (cols + 1) = elimStep (elimRun R cols) cols := by
  unfold elimRun
  rw [List.range_succ, List.foldl_append]
  rfl
theorem findRow_some {R : List (List B)} {row col k : Nat} (h : findRow R row col = some k) : row ≤ k ∧ k < R.length ∧ (R.getD k []).getD col 0 ≠ 0 := by
  unfold findRow at h
  rw [List.find?_range_eq_some] at h
  obtain ⟨h1, h2, _⟩ := h
  simp only [Bool.and_eq_true, decide_eq_true_eq] at h1
  exact ⟨h1.1, by simpa using h2, h1.2⟩
theorem findRow_full {R : List (List B)} {row col : Nat} (h : R.length ≤ row) : findRow R row col = none := by
  unfold findRow
  rw [List.find?_range_eq_none]
  intro j hj
  simp; omega
theorem swapRows_length (R : List (List B)) (i j : Nat) : (swapRows R i j).length = R.length := by simp [swapRows]
theorem scaleRow_length (R : List (List B)) (i j : Nat) : (scaleRow R i j).length = R.length := by simp [scaleRow]
theorem clearRows_length (R : List (List B)) (i j : Nat) : (clearRows R i j).length = R.length := by simp [clearRows]
theorem swapRows_rows {R : List (List B)} {m : Nat} (hm : ∀ r ∈ R, r.length = m) {i j : Nat} (hi : i < R.length) (hj : j < R.length) : ∀ r ∈ swapRows R i j, r.length = m := by
  intro r hr
  unfold swapRows at hr
  rcases List.mem_or_eq_of_mem_set hr with hr | rfl
  · rcases List.mem_or_eq_of_mem_set hr with hr | rfl
    · exact hm r hr
    · exact hm _ (getD_mem' hj)
  · exact hm _ (getD_mem' hi)
theorem scaleRow_rows {R : List (List B)} {m : Nat} (hm : ∀ r ∈ R, r.length = m) {i : Nat} (j : Nat) (hi : i < R.length) : ∀ r ∈ scaleRow R i j, r.length = m := by
  intro r hr
  unfold scaleRow at hr
  rcases List.mem_or_eq_of_mem_set hr with hr | rfl
  · exact hm r hr
  · rw [List.length_map]
    exact hm _ (getD_mem' hi)
theorem clearRow_length {pr r : List B} {m : Nat} (h1 : pr.length = m) (h2 : r.length = m) (col : Nat) : (clearRow pr col r).length = m := by
  unfold clearRow
  split
  · exact h2
  · rw [addS_length _ _ _ (by omega), h2]
theorem clearRows_rows {R : List (List B)} {m : Nat} (hm : ∀ r ∈ R, r.length = m) {i : Nat} (j : Nat) (hi : i < R.length) : ∀ r ∈ clearRows R i j, r.length = m := by
  intro r hr
  unfold clearRows at hr
  rw [List.mem_mapIdx] at hr
  obtain ⟨q, hq, rfl⟩ := hr
  split
  · exact clearRow_length (hm _ (getD_mem' hi)) (hm _ (List.getElem_mem hq)) j
  · exact hm _ (List.getElem_mem hq)
theorem elimStep_length (s : ES) (col : Nat) : (elimStep s col).1.length = s.1.length := by
  unfold elimStep
  split
  · rfl
  · simp [clearRows_length, scaleRow_length, swapRows_length]
theorem elimStep_piv {s : ES} (h : s.2.1.length ≤ s.1.length) (col : Nat) : (elimStep s col).2.1.length ≤ (elimStep s col).1.length := by
  rw [elimStep_length]
  unfold elimStep
  split
  · exact h
  · rename_i k hk
    have := findRow_some hk
    simp; omega
theorem elimStep_rows {s : ES} {m : Nat} (hm : ∀ r ∈ s.1, r.length = m) (col : Nat) : ∀ r ∈ (elimStep s col).1, r.length = m := by
  unfold elimStep
  split
  · exact hm
  · rename_i k hk
    have hk := findRow_some hk
    have h1 := swapRows_rows hm (i := s.2.1.length) (j := k) (by omega) (by omega)
    have h2 := scaleRow_rows h1 (i := s.2.1.length) col (by rw [swapRows_length]; omega)
    exact clearRows_rows h2 col (by rw [scaleRow_length, swapRows_length]; omega)
theorem elimRun_length (R : List (List B)) (cols : Nat) : (elimRun R cols).1.length = R.length := by
  induction cols with
  | zero => rfl
  | succ n ih => rw [elimRun_succ, elimStep_length, ih]
theorem elimRun_piv (R : List (List B)) (cols : Nat) : (elimRun R cols).2.1.length ≤ R.length := by
  have : (elimRun R cols).2.1.length ≤ (elimRun R cols).1.length := by
    induction cols with
    | zero => exact Nat.zero_le _
    | succ n ih => rw [elimRun_succ]; exact elimStep_piv ih n
  rwa [elimRun_length] at this
theorem elimRun_pivle (R : List (List B)) (cols : Nat) : (elimRun R cols).2.1.length ≤ cols := by
  induction cols with
  | zero => exact Nat.le_refl _
  | succ n ih =>
    rw [elimRun_succ]
    unfold elimStep
    split
    · omega
    · simp; omega
theorem elimRun_rows {R : List (List B)} {m : Nat} (hm : ∀ r ∈ R, r.length = m) (cols : Nat) : ∀ r ∈ (elimRun R cols).1, r.length = m := by
  induction cols with
  | zero => exact hm
  | succ n ih => rw [elimRun_succ]; exact elimStep_rows ih n
theorem elimRun_full {R : List (List B)} {n : Nat} (h : (elimRun R n).2.1.length = R.length) : ∀ k, elimRun R (n + k) = elimRun R n := by
  intro k
  induction k with
  | zero => rfl
  | succ k ih =>
    rw [← Nat.add_assoc, elimRun_succ, ih]
    unfold elimStep
    rw [findRow_full (by rw [elimRun_length, h]; exact Nat.le_refl _)]
def natInts (l : List Nat) : List Int := l.map fun (x : Nat) => (x : Int)

section
variable {w w1 : World} {base gx gr c : Nat} {X : Nat → Prop} {R : List (List B)} {piv : List Int} {d : B}
theorem Elim.swap (h : Elim w base gx gr c X R piv d) {i j : Nat} (hi : i < R.length) (hj : j < R.length) {vi vj : Value} (hvi : w.cell? ⟨gr, i, none⟩ = some vi) (hvj : w.cell? ⟨gr, j, none⟩ = some vj) :
    Elim ((w.setCell ⟨gr, i, none⟩ vj).setCell ⟨gr, j, none⟩ vi) base gx gr c X (swapRows R i j) piv d := by
  obtain ⟨vp, hg, hp⟩ := h.piv
  have hS := S_swap h.rows i j (up (R.getD i [])) (up (R.getD j [])) vi vj (by simp [up2, List.getD_eq_getElem?_getD, List.getElem?_eq_getElem hi]) (by simp [up2, List.getD_eq_getElem?_getD, List.getElem?_eq_getElem hj]) hvi hvj
  rw [set_up2, set_up2] at hS
  have hl : (swapRows R i j).length = R.length := swapRows_length R i j
  refine ⟨⟨vp, ?_, Kd.R_far (p := ⟨gr, j, none⟩) (Kd.R_far (p := ⟨gr, i, none⟩) hp (fun k hk => hk.2.2) _) (fun k hk => hk.2.2) _⟩, ?_, h.baseX, h.baseR, h.ne⟩
  · rw [hl]
    exact (Below.heap_setCell _ _ vi gx h.ne).trans ((Below.heap_setCell w _ vj gx h.ne).trans hg)
  · rw [hl]
    exact hS
end
end Go.Proofs.Ytpkghpljgjlmjaa.K
/- The elimination of package matrix: the walk of run. -/
namespace Go.Proofs.Ytpkghpljgjlmjaa.K
open Go.RowKit Go.Proofs.YtpkghpljgjlmjaaW.PrintWords Go.Proofs.YtpkghpljgjlmjaaW.PrintLast Go.Proofs.YtpkghpljgjlmjaaW.PrintMore Kin
set_option linter.unusedVariables false
set_option linter.unusedSimpArgs false
section
variable {w w1 : World} {base gx gr c : Nat} {X X' : Nat → Prop} {R : List (List B)} {piv piv1 : List Int} {d : B}
theorem Elim.weaken (h : Elim w base gx gr c X R piv d) (hX : ∀ k, X' k → X k) : Elim w base gx gr c X' R piv d := by
  obtain ⟨vp, hg, hp⟩ := h.piv
  exact ⟨⟨vp, hg, Kd.R_mono hp (fun k hk => ⟨fun hx => hk.1 (hX k hx), hk.2⟩)⟩, h.rows, h.baseX, h.baseR, h.ne⟩
theorem Elim.avoid (h : Elim w base gx gr c X R piv d) {g : Nat} (hg : w.heap.size ≤ g) : Elim w base gx gr c (fun k => X k ∨ k = g) R piv d := by
  obtain ⟨vp, hg', hp⟩ := h.piv
  exact ⟨⟨vp, hg', Kd.R_mono (Kd.R_bound hp) (fun k hk => ⟨fun hx => hx.elim hk.1.1 (fun e => by have := hk.2.2.1; omega), hk.1.2⟩)⟩, h.rows, h.baseX, h.baseR, h.ne⟩
theorem Elim.piv' (h : Elim w base gx gr c X R piv d) : ∃ vp, w.cell? ⟨gx, 1, none⟩ = some vp ∧ Kd.R (Kd.int .i64) 3 w base (fun k => ¬ X k ∧ k ≠ gx ∧ k ≠ gr) vp piv := by
  obtain ⟨vp, hg, hp⟩ := h.piv
  exact ⟨vp, by rw [blk_cell hg]; rfl, hp⟩
theorem Elim.setPiv (h : Elim w base gx gr c X R piv d) {vp : Value} (hvp : w.cell? ⟨gx, 1, none⟩ = some vp) {v1 : Value} (hr : Kd.R (Kd.int .i64) 3 w1 base (fun k => ¬ X k ∧ k ≠ gx ∧ k ≠ gr) v1 piv1) (hgb : w.grownBy w1 vp.ownBlock) :
    Elim (w1.setCell ⟨gx, 1, none⟩ v1) base gx gr c X R piv1 d := by
  obtain ⟨vp', hg, hp⟩ := h.piv
  have e : some vp' = some vp := by rw [← hvp, blk_cell hg]; rfl
  obtain rfl := Option.some.inj e
  have hg1 := (hgb.block gx h.lt (fun e => (hp.1 gx e.symm).2.1 rfl)).trans hg
  refine ⟨⟨v1, ?_, Kd.R_far (p := ⟨gx, 1, none⟩) hr (fun k hk => hk.2.1) _⟩, ?_, h.baseX, h.baseR, h.ne⟩
  · rw [blk_set hg1]
    rfl
  · obtain ⟨inner, ho⟩ := Kd.R_own hp
    have h2 := Kd.S_over' h.rows (v := vp') (e' := 3) (fun k hk => own_typed ho k hk) (by decide) hgb
    exact Kd.S_mono (Kd.S_far (p := ⟨gx, 1, none⟩) (Kd.S_types h2 hg1 (by decide)) (fun k hk => hk.2) _) (fun _ hk => hk.1)
theorem Elim.far (h : Elim w base gx gr c X R piv d) {g t : Nat} {cells : Array Value} (hb : w.heap[g]? = some (.cells cells t (0, 0))) (hX : X g) (h1 : g ≠ gx) (ht : ∀ q, q ∈ 34 :: D.E → q ≠ t) (j : Nat) (v : Value) : Elim (w.setCell ⟨g, j, none⟩ v) base gx gr c X R piv d := by
  obtain ⟨vp, hg, hp⟩ := h.piv
  refine ⟨⟨vp, (Below.heap_setCell w _ v gx (Ne.symm h1)).trans hg, Kd.R_far (p := ⟨g, j, none⟩) hp (fun k hk e => hk.1 (e ▸ hX)) _⟩, ?_, h.baseX, h.baseR, h.ne⟩
  exact Kd.S_mono (Kd.S_far (p := ⟨g, j, none⟩) (Kd.S_types h.rows hb ht) (fun k hk => hk.2) _) (fun _ hk => hk.1)
end

def f87.T8 : Bool × List (List Nat × List Nat) := (true, [([], []), ([0], [0]), ([1], [1]), ([2], [2]), ([], []), ([], []), ([5], [5]), ([6], [6]), ([7], [7]), ([], []), ([], []), ([10], [10]), ([11], [11]), ([12], [12]), ([], []), ([13, 14], [13, 14]), ([15], [15]), ([], []), ([17], [17]), ([18], [18]), ([19], [19]), ([], []), ([20, 21], [20, 21]), ([22], [22]), ([3, 4, 0, 1, 2, 3, 4, 8, 10, 11, 12, 13, 14, 15, 16, 20, 23], [3, 4]), ([24, 16, 0, 1, 2, 3, 4, 8, 10, 11, 12, 13, 14, 15, 16, 20, 23], [16, 24]), ([8, 9, 0, 1, 2, 3, 4, 5, 6, 7, 8, 9, 10, 11, 12, 13, 14, 15, 16, 17, 18, 19, 20, 21, 22, 23, 24, 25], [8, 9]), ([26, 23, 25, 0, 1, 2, 3, 4, 5, 6, 7, 8, 9, 10, 11, 12, 13, 14, 15, 16, 17, 18, 19, 20, 21, 22, 23, 24, 25], [23, 26])])
def f87.B8 : List Nat := [0, 1, 3, 7, 0, 0, 32, 96, 224, 0, 0, 1024, 3072, 7168, 0, 31744, 64512, 0, 131072, 393216, 917504, 0, 4063232, 8257536, 16776703, 33553919, 67108863, 134217727]
theorem f87.tab8 : rtab .any (opsOf Try.f87 8) = f87.T8 := by kernel_rfl
theorem f87.bits8 : waitsOk f87.T8.2 f87.B8 = true := by kernel_rfl
def f87.T11 : Bool × List (List Nat × List Nat) := (true, [([], []), ([], []), ([1], [1]), ([2], [2]), ([3], [3]), ([], []), ([5], [5]), ([4, 6], [4, 6]), ([0, 0, 1, 2, 3, 4, 5, 6, 7], [0]), ([8, 0, 1, 2, 3, 4, 5, 6, 7], [8]), ([9, 7, 7, 0, 1, 2, 3, 4, 5, 6, 7], [7, 9])])
def f87.B11 : List Nat := [0, 0, 2, 6, 14, 0, 32, 126, 255, 511, 1023]
theorem f87.tab11 : rtab .any (opsOf Try.f87 11) = f87.T11 := by kernel_rfl
theorem f87.bits11 : waitsOk f87.T11.2 f87.B11 = true := by kernel_rfl

def runX (gbx grow : Nat) : Nat → Prop := fun k => (False ∨ k = gbx) ∨ k = grow
structure RunSt (w0 w : World) (base gx gr c gbx grow : Nat) (s : ES) : Prop where
  elim : Elim w base gx gr c (runX gbx grow) s.1 (natInts s.2.1) s.2.2
  box : w.heap[gbx]? = some (.cells #[.pointer (some ⟨gx, 0, none⟩)] 77 (0, 0))
  row : w.heap[grow]? = some (.cells #[.int .i64 (s.2.1.length : Int)] 3 (0, 0))
  below : Below base w0 w
  n1 : gbx ≠ gx
  n2 : gbx ≠ gr
  n3 : grow ≠ gx
  n4 : grow ≠ gr
  n5 : gbx ≠ grow
  base1 : base ≤ grow
  base2 : base ≤ gbx
theorem RunSt.start {w0 w w1 w2 : World} {base gx gr c gbx grow : Nat} {R : List (List B)} (h : Elim w base gx gr c (fun _ => False) R [] 1) (hB : Below base w0 w) (hg1 : gbx = w.heap.size) (hb1 : w1.heap[gbx]? = some (.cells #[.pointer (some ⟨gx, 0, none⟩)] 77 (0, 0))) (hB1 : Below w.heap.size w w1)
    (hg2 : grow = w1.heap.size) (hb2 : w2.heap[grow]? = some (.cells #[.int .i64 0] 3 (0, 0))) (hB2 : Below w1.heap.size w1 w2) : RunSt w0 (w2.setCell ⟨grow, 0, none⟩ (.int .i64 0)) base gx gr c gbx grow (elimRun R 0) := by
  have h1 := h.lt
  have h2 := h.ltr
  have h3 := hB1.size
  have h4 := h.baseX
  have hA := h.avoid (g := gbx) (by omega)
  have hA2 := hA.avoid (g := grow) (by omega)
  have hl := blk_lt hb1
  have hb1' := (hB2.block gbx (by omega)).trans hb1
  have h5 : Below base w0 w2 := (hB.trans (hB1.mono (by omega))).trans (hB2.mono (by omega))
  have hE := (hA2.below hB1).below hB2
  refine ⟨hE.far hb2 (.inr rfl) (by omega) (by decide) 0 _, blk_far hb1' (by show gbx ≠ grow; omega) _, ?_, h5.setCell (by show base ≤ grow; omega) _, by omega, by omega, by omega, by omega, by omega, by omega, by omega⟩
  rw [blk_set hb2]
  rfl
def colX (gbx grow gcol : Nat) : Nat → Prop := fun k => runX gbx grow k ∨ k = gcol
/-- Inside a round: the column's variable too. -/
structure ColSt (w0 w : World) (base gx gr c gbx grow gcol j r : Nat) (R : List (List B)) (piv : List Int) (d : B) : Prop where
  elim : Elim w base gx gr c (colX gbx grow gcol) R piv d
  box : w.heap[gbx]? = some (.cells #[.pointer (some ⟨gx, 0, none⟩)] 77 (0, 0))
  row : w.heap[grow]? = some (.cells #[.int .i64 (r : Int)] 3 (0, 0))
  col : w.heap[gcol]? = some (.cells #[.int .i64 (j : Int)] 3 (0, 0))
  below : Below base w0 w
  n1 : gbx ≠ gx
  n2 : gbx ≠ gr
  n3 : grow ≠ gx
  n4 : grow ≠ gr
  n5 : gbx ≠ grow
  n6 : gcol ≠ gx
  n7 : gcol ≠ gr
  n8 : gcol ≠ gbx
  n9 : gcol ≠ grow
  base1 : base ≤ grow
  base2 : base ≤ gbx
section
variable {w0 w w1 : World} {base gx gr c gbx grow gcol j r : Nat} {R R1 : List (List B)} {piv piv1 : List Int} {d d1 : B}
theorem ColSt.boxc (h : ColSt w0 w base gx gr c gbx grow gcol j r R piv d) : w.cell? ⟨gbx, 0, none⟩ = some (.pointer (some ⟨gx, 0, none⟩)) := by rw [blk_cell h.box]; rfl
theorem ColSt.rowc (h : ColSt w0 w base gx gr c gbx grow gcol j r R piv d) : w.cell? ⟨grow, 0, none⟩ = some (.int .i64 (r : Int)) := by rw [blk_cell h.row]; rfl
theorem ColSt.colc (h : ColSt w0 w base gx gr c gbx grow gcol j r R piv d) : w.cell? ⟨gcol, 0, none⟩ = some (.int .i64 (j : Int)) := by rw [blk_cell h.col]; rfl
theorem ColSt.rowf (h : ColSt w0 w base gx gr c gbx grow gcol j r R piv d) : w.frozen? ⟨grow, 0, none⟩ = false := blk_frozen h.row 0
theorem ColSt.to (h : ColSt w0 w base gx gr c gbx grow gcol j r R piv d) (hB : Below w.heap.size w w1) : ColSt w0 w1 base gx gr c gbx grow gcol j r R piv d :=
  ⟨h.elim.below hB, (hB.block _ (blk_lt h.box)).trans h.box, (hB.block _ (blk_lt h.row)).trans h.row, (hB.block _ (blk_lt h.col)).trans h.col, h.below.trans (hB.mono (Nat.le_trans h.base1 (Nat.le_of_lt (blk_lt h.row)))), h.n1, h.n2, h.n3, h.n4, h.n5, h.n6, h.n7, h.n8, h.n9, h.base1, h.base2⟩
theorem ColSt.drewN (h : ColSt w0 w base gx gr c gbx grow gcol j r R piv d) (n : Nat) : ColSt w0 (w.drewN n) base gx gr c gbx grow gcol j r R piv d := h.to (pw_below_drewN (Below.refl _ _) n)
theorem ColSt.drew (h : ColSt w0 w base gx gr c gbx grow gcol j r R piv d) : ColSt w0 w.drew base gx gr c gbx grow gcol j r R piv d := h.to (below_drew (Below.refl _ _))
theorem ColSt.framed (h : ColSt w0 w base gx gr c gbx grow gcol j r R piv d) (hE : Elim w1 base gx gr c (colX gbx grow gcol) R1 piv1 d1) (hF : FrameE w w1 gx gr) : ColSt w0 w1 base gx gr c gbx grow gcol j r R1 piv1 d1 :=
  ⟨hE, (hF.block _ (blk_lt h.box) h.n1 h.n2).trans h.box, (hF.block _ (blk_lt h.row) h.n3 h.n4).trans h.row, (hF.block _ (blk_lt h.col) h.n6 h.n7).trans h.col, hF.toBelow h.below hE.baseX hE.baseR (Nat.le_trans h.base1 (Nat.le_of_lt (blk_lt h.row))), h.n1, h.n2, h.n3, h.n4, h.n5, h.n6, h.n7, h.n8, h.n9, h.base1, h.base2⟩
theorem ColSt.swap (h : ColSt w0 w base gx gr c gbx grow gcol j r R piv d) {i k : Nat} (hi : i < R.length) (hj : k < R.length) {vi vj : Value} (hvi : w.cell? ⟨gr, i, none⟩ = some vi) (hvj : w.cell? ⟨gr, k, none⟩ = some vj) :
    ColSt w0 ((w.setCell ⟨gr, i, none⟩ vj).setCell ⟨gr, k, none⟩ vi) base gx gr c gbx grow gcol j r (swapRows R i k) piv d :=
  h.framed (h.elim.swap hi hj hvi hvj) (((FrameE.refl w gx gr).set (p := ⟨gr, i, none⟩) (.inr rfl) _).set (p := ⟨gr, k, none⟩) (.inr rfl) _)
theorem ColSt.append (h : ColSt w0 w base gx gr c gbx grow gcol j r R piv d) {vp : Value} (hvp : w.cell? ⟨gx, 1, none⟩ = some vp) {v1 : Value} (hr : Kd.R (Kd.int .i64) 3 w1 base (fun k => ¬ colX gbx grow gcol k ∧ k ≠ gx ∧ k ≠ gr) v1 piv1) (hgb : w.grownBy w1 vp.ownBlock) (hb : Below base w0 w1) :
    ColSt w0 (w1.setCell ⟨gx, 1, none⟩ v1) base gx gr c gbx grow gcol j r R piv1 d := by
  obtain ⟨vp', hg', hp⟩ := h.elim.piv
  have e : some vp' = some vp := by rw [← hvp, blk_cell hg']; rfl
  obtain rfl := Option.some.inj e
  have f : ∀ k, colX gbx grow gcol k → some k ≠ vp'.ownBlock := fun k hk e => (hp.1 k e.symm).1 hk
  exact ⟨h.elim.setPiv hvp hr hgb, blk_far ((hgb.block _ (blk_lt h.box) (f _ (.inl (.inl (.inr rfl))))).trans h.box) h.n1 _, blk_far ((hgb.block _ (blk_lt h.row) (f _ (.inl (.inr rfl)))).trans h.row) h.n3 _, blk_far ((hgb.block _ (blk_lt h.col) (f _ (.inr rfl))).trans h.col) h.n6 _, hb.setCell h.elim.baseX _, h.n1, h.n2, h.n3, h.n4, h.n5, h.n6, h.n7, h.n8, h.n9, h.base1, h.base2⟩
theorem ColSt.inc (h : ColSt w0 w base gx gr c gbx grow gcol j r R piv d) (r1 : Nat) : ColSt w0 (w.setCell ⟨grow, 0, none⟩ (.int .i64 (r1 : Int))) base gx gr c gbx grow gcol j r1 R piv d :=
  ⟨h.elim.far h.row (.inl (.inr rfl)) h.n3 (by decide) 0 _, blk_far h.box h.n5 _, by rw [blk_set h.row]; rfl, blk_far h.col h.n9 _, h.below.setCell h.base1 _, h.n1, h.n2, h.n3, h.n4, h.n5, h.n6, h.n7, h.n8, h.n9, h.base1, h.base2⟩
theorem ColSt.run {pv : List Nat} (h : ColSt w0 w base gx gr c gbx grow gcol j pv.length R (natInts pv) d) : RunSt w0 w base gx gr c gbx grow (R, pv, d) :=
  ⟨h.elim.weaken (fun _ hk => .inl hk), h.box, h.row, h.below, h.n1, h.n2, h.n3, h.n4, h.n5, h.base1, h.base2⟩
theorem RunSt.colSt {s : ES} (h : RunSt w0 w base gx gr c gbx grow s) (hg : gcol = w.heap.size) (hb : w1.heap[gcol]? = some (.cells #[.int .i64 0] 3 (0, 0))) (hB : Below w.heap.size w w1) (j : Nat) :
    ColSt w0 (w1.setCell ⟨gcol, 0, none⟩ (.int .i64 (j : Int))) base gx gr c gbx grow gcol j s.2.1.length s.1 (natInts s.2.1) s.2.2 := by
  have l1 := blk_lt h.box
  have l2 := blk_lt h.row
  have l3 := h.elim.lt
  have l4 := h.elim.ltr
  have l5 := h.base1
  have hE := ((h.elim.avoid (g := gcol) (by omega)).below hB).far hb (.inr rfl) (by omega) (by decide) 0 (.int .i64 (j : Int))
  refine ⟨hE, blk_far ((hB.block _ l1).trans h.box) (by show gbx ≠ gcol; omega) _, blk_far ((hB.block _ l2).trans h.row) (by show grow ≠ gcol; omega) _, by rw [blk_set hb]; rfl, (h.below.trans (hB.mono (by omega))).setCell (by show base ≤ gcol; omega) _, h.n1, h.n2, h.n3, h.n4, h.n5, by omega, by omega, by omega, by omega, h.base1, h.base2⟩
end

set_option maxRecDepth 100000 in
set_option maxHeartbeats 8000000 in
theorem run_calls {w0 w : World} {base gx gr c m : Nat} {R : List (List B)} (h : Elim w base gx gr c (fun _ => False) R [] 1) (hB : Below base w0 w) (cols : Nat)
    (hm : ∀ r ∈ R, r.length = m) (hcols : cols ≤ m) (hlim : m ≤ 1000) (hn : R.length ≤ 64) :
    Calls Try.prog 87 #[.pointer (some ⟨gx, 0, none⟩), .int .i64 (cols : Int)] w fun e w' => e = .returned (.tuple #[]) ∧ Elim w' base gx gr c (fun _ => False) (elimRun R cols).1 (natInts (elimRun R cols).2.1) (elimRun R cols).2.2 ∧ Below base w0 w' := by
  have hmf : ∀ (fn : Fn) (first cap : Array Value) (w : World), (Instr.makeFunc fn first cap).run Try.prog w = .ok (.func fn first cap) w := fun _ _ _ _ => rfl
  have HE := Aside0.mk h
  have HM := Aside0.mk hm
  have HBB := Aside0.mk hB
  clear h hm hB
  go_enter Try.func87, Try.ntmps87
  go_wp2_with (first | ((with_reducible refine gate_dst (N := 2) rfl ?_); refine box_event rfl (N := 2) rfl (cs := #[.pointer (some ⟨gx, 0, none⟩)]) (t := 77) ?hrun ?_; (case hrun => first | (go_simp; done) | (go_simp; rfl)); intro gbx hgb w1 hb1 hB1; have HG1 := Aside0.mk hgb; have HB1 := Aside0.mk hB1; have HK1 := Aside0.mk hb1; clear hgb hb1 hB1) | ((with_reducible refine gate_dst (N := 4) rfl ?_); refine box_event rfl (N := 4) rfl (cs := #[.int .i64 0]) (t := 3) ?hrun ?_; (case hrun => first | (go_simp; done) | (go_simp; rfl)); intro grow hgr w2 hb2 hB2; have HG2 := Aside0.mk hgr; have HB2 := Aside0.mk hB2; have HK2 := Aside0.mk hb2; have hxr := blk_cell hb2 0; have hfr := blk_frozen hb2 0; have hlr := blk_lt hb2; clear hgr hb2 hB2))
  go_frame
  go_step3
  go_wp2_with (first | ((with_reducible refine gate_dst (N := 2) rfl ?_); refine box_event rfl (N := 2) rfl (cs := #[.pointer (some ⟨gx, 0, none⟩)]) (t := 77) ?hrun ?_; (case hrun => first | (go_simp; done) | (go_simp; rfl)); intro gbx hgb w1 hb1 hB1; have HG1 := Aside0.mk hgb; have HB1 := Aside0.mk hB1; have HK1 := Aside0.mk hb1; clear hgb hb1 hB1) | ((with_reducible refine gate_dst (N := 4) rfl ?_); refine box_event rfl (N := 4) rfl (cs := #[.int .i64 0]) (t := 3) ?hrun ?_; (case hrun => first | (go_simp; done) | (go_simp; rfl)); intro grow hgr w2 hb2 hB2; have HG2 := Aside0.mk hgr; have HB2 := Aside0.mk hB2; have HK2 := Aside0.mk hb2; have hxr := blk_cell hb2 0; have hfr := blk_frozen hb2 0; have hlr := blk_lt hb2; clear hgr hb2 hB2))
  go_step3
  go_wp2_with (first | ((with_reducible refine gate_dst (N := 2) rfl ?_); refine box_event rfl (N := 2) rfl (cs := #[.pointer (some ⟨gx, 0, none⟩)]) (t := 77) ?hrun ?_; (case hrun => first | (go_simp; done) | (go_simp; rfl)); intro gbx hgb w1 hb1 hB1; have HG1 := Aside0.mk hgb; have HB1 := Aside0.mk hB1; have HK1 := Aside0.mk hb1; clear hgb hb1 hB1) | ((with_reducible refine gate_dst (N := 4) rfl ?_); refine box_event rfl (N := 4) rfl (cs := #[.int .i64 0]) (t := 3) ?hrun ?_; (case hrun => first | (go_simp; done) | (go_simp; rfl)); intro grow hgr w2 hb2 hB2; have HG2 := Aside0.mk hgr; have HB2 := Aside0.mk hB2; have HK2 := Aside0.mk hb2; have hxr := blk_cell hb2 0; have hfr := blk_frozen hb2 0; have hlr := blk_lt hb2; clear hgr hb2 hB2))
  have hST := RunSt.start HE.out HBB.out HG1.out HK1.out HB1.out HG2.out HK2.out HB2.out
  have HST := Aside0.mk hST
  clear hST hxr hfr hlr HG1 HK1 HB1 HG2 HK2 HB2
  generalize (w2.setCell ⟨grow, 0, none⟩ (.int .i64 0)) = W0 at HST ⊢
  clear w1 w2
  go_loopw [9] (fun v9 wr => ∃ j : Nat, j ≤ cols ∧ v9 = .int .i64 (j : Int) ∧ Aside0 (RunSt w0 wr base gx gr c gbx grow (elimRun R j))) (fun v9 _ => cols - (intOf v9).toNat)
  case atStart => exact ⟨0, by omega, rfl, HST⟩
  case round =>
    obtain ⟨j, hj, rfl, HA⟩ := hrel
    by_cases hlt : j < cols
    · have HL := Aside0.mk (elimRun_length R j)
      have HP := Aside0.mk (elimRun_piv R j)
      have HR := Aside0.mk (elimRun_rows HM.out j)
      have HS := Aside0.mk (elimRun_succ R j)
      generalize hs : elimRun R j = s at HA HL HP HR HS
      have HF := Aside0.mk hs
      clear hs
      obtain ⟨Rj, piv, det⟩ := s
      obtain ⟨wo, rfl⟩ : ∃ wo : World, wo = wr := ⟨_, rfl⟩
      rcases hfind : findRow Rj piv.length j with _ | k
      · have HFI := Aside0.mk (show findInt Rj piv.length j = -1 by unfold findInt; rw [hfind])
        have HFE := Aside0.mk hfind
        clear hfind
        go_wp2_with (first | ((with_reducible refine gate_dst (N := 5) rfl ?_); refine box_event rfl (N := 5) rfl (cs := #[.int .i64 0]) (t := 3) ?hrun ?_; (case hrun => first | (go_simp; done) | (go_simp; rfl)); intro gcol hgc w5 hb5 hB5; have HG5 := Aside0.mk hgc; have HB5 := Aside0.mk hB5; have HK5 := Aside0.mk hb5; have hxc := blk_cell hb5 0; have hfc := blk_frozen hb5 0; have hlc := blk_lt hb5; clear hgc hb5 hB5; have HCS := Aside0.mk (RunSt.colSt HA.out HG5.out HK5.out HB5.out j)) | (with_reducible refine (find_calls HCS.out.elim grow gbx gcol piv.length j HCS.out.boxc HCS.out.rowc HCS.out.colc HR.out (by omega) (by have := HP.out; have := HL.out; (try simp only at *); omega) (by omega) (by have := HL.out; (try simp only at *); omega)).mono ?_; rintro e w6 ⟨rfl, hdr⟩; obtain ⟨n1, hn1⟩ := hdr.out; subst hn1; rw [HFI.out]; clear hdr; replace HCS := Aside0.mk (HCS.out.drewN n1)))
        go_roundw
        case rel =>
          refine ⟨j + 1, by omega, by go_num, ⟨?_⟩⟩
          have e : elimStep (Rj, piv, det) j = (Rj, piv, det) := by unfold elimStep; rw [HFE.out]
          rw [HS.out, e]
          exact HCS.out.run
        case measure => simp [intOf]; omega
      · have HFI := Aside0.mk (show findInt Rj piv.length j = k by unfold findInt; rw [hfind])
        have HFE := Aside0.mk hfind
        have hk := findRow_some hfind
        have HK := Aside0.mk hk
        clear hfind
        have hk1 := hk.1
        have hk2 := hk.2.1
        have hkn : decide ((k : Int) < 0) = false := by rw [decide_eq_false_iff_not]; omega
        clear hk
        go_wp2_with (first | ((with_reducible refine gate_dst (N := 5) rfl ?_); refine box_event rfl (N := 5) rfl (cs := #[.int .i64 0]) (t := 3) ?hrun ?_; (case hrun => first | (go_simp; done) | (go_simp; rfl)); intro gcol hgc w5 hb5 hB5; have HG5 := Aside0.mk hgc; have HB5 := Aside0.mk hB5; have HK5 := Aside0.mk hb5; have hxc := blk_cell hb5 0; have hfc := blk_frozen hb5 0; have hlc := blk_lt hb5; clear hgc hb5 hB5; have HCS := Aside0.mk (RunSt.colSt HA.out HG5.out HK5.out HB5.out j)) | (with_reducible refine (find_calls HCS.out.elim grow gbx gcol piv.length j HCS.out.boxc HCS.out.rowc HCS.out.colc HR.out (by omega) (by have := HP.out; have := HL.out; (try simp only at *); omega) (by omega) (by have := HL.out; (try simp only at *); omega)).mono ?_; rintro e w6 ⟨rfl, hdr⟩; obtain ⟨n1, hn1⟩ := hdr.out; subst hn1; rw [HFI.out]; clear hdr; replace HCS := Aside0.mk (HCS.out.drewN n1)))
        clear hxc hfc hlc HG5 HB5 HK5
        have hHCS := HCS.out
        clear HCS
        generalize ((w5.setCell ⟨gcol, 0, none⟩ (.int .i64 (j : Int))).drewN n1) = W at hHCS ⊢
        have hx0 := hHCS.elim.cells.1
        have hLj := HL.out
        have hPj := HP.out
        replace hLj : Rj.length = R.length := hLj
        replace hPj : piv.length ≤ R.length := hPj
        obtain ⟨Ap, cp, hxp, hlp, hCp, hfp⟩ := hHCS.elim.read piv.length (by omega)
        obtain ⟨Ak, ck, hxk, hlk, hCk, hfk⟩ := hHCS.elim.read k (by omega)
        clear hlp hCp hlk hCk
        generalize (up (Rj.getD piv.length [])).length = np at hxp
        generalize (up (Rj.getD k [])).length = nk at hxk
        have hxb := hHCS.boxc
        have hxr := hHCS.rowc
        have p0 : (0 : Int) ≤ (piv.length : Int) := by omega
        have p1 : (piv.length : Int) < (Rj.length : Int) := by omega
        have k0 : (0 : Int) ≤ (k : Int) := by omega
        have k1 : (k : Int) < (Rj.length : Int) := by omega
        have HCS := Aside0.mk hHCS
        have HL1 := Aside0.mk (show piv.length < Rj.length by omega)
        have HL2 := Aside0.mk hk2
        clear hHCS hk1 hk2 hLj hPj
        refine start_ (n := 28) (S := fun w' => w'.cell? ⟨gbx, 0, none⟩ = some (.pointer (some ⟨gx, 0, none⟩)) ∧ w'.cell? ⟨grow, 0, none⟩ = some (.int .i64 (piv.length : Int)) ∧ w'.cell? ⟨gx, 0, none⟩ = some (.slice (some ⟨gr, 0, none⟩) Rj.length c) ∧ w'.cell? ⟨gr, k, none⟩ = some (.slice Ak nk ck) ∧ w'.cell? ⟨gr, piv.length, none⟩ = some (.slice Ap np cp)) (ds := [25, 27]) #[false, false, false, false, false, false, false, false, false, false, false, false, false, false, false, false, false, false, false, false, false, false, false, false, false, false, false, false] (by kernel_rfl) rfl rfl ⟨hxb, hxr, hx0, hxk, hxp⟩ (fun hHeld => ?_)
        refine with_tabW f87.tab8 f87.bits8 (fun HT_ HW_ => ?_)
        have HC := Aside0.mk HCS.out.drew
        replace hfp : W.drew.frozen? ⟨gr, piv.length, none⟩ = false := hfp
        replace hfk : W.drew.frozen? ⟨gr, k, none⟩ = false := hfk
        clear hxb hxr hx0 hxk hxp
        generalize W.drew = W1 at HC hfp hfk hHeld ⊢
        clear HCS w5
        refine pure_ (i := 9) (N := some 26) (v := ?_) (a' := ?_) #[false, false, false, false, false, false, false, false, false, true, false, false, false, false, false, false, false, false, false, false, false, false, false, false, false, false, false, false] rfl rfl (any_of HT_.out (by kernel_rfl)) (fun _ _ _ h => h) (Or.inl ⟨by rfl, ?_⟩) ?_ ?_
        rotate_left
        · intro w'
          go_simp
          with_reducible rfl
        rotate_left
        · simp only [Act.put, List.setIfInBounds_toArray, List.set_cons_zero, List.set_cons_succ, i64_w, i32_w]
          rfl
        refine pure_ (i := 14) (N := some 31) (v := ?_) (a' := ?_) #[false, false, false, false, false, false, false, false, false, true, false, false, false, false, true, false, false, false, false, false, false, false, false, false, false, false, false, false] rfl rfl (any_of HT_.out (by kernel_rfl)) (fun _ _ _ h => h) (Or.inl ⟨by rfl, ?_⟩) ?_ ?_
        rotate_left
        · intro w'
          go_simp
          with_reducible rfl
        rotate_left
        · simp only [Act.put, List.setIfInBounds_toArray, List.set_cons_zero, List.set_cons_succ, i64_w, i32_w]
          rfl
        refine take_ (i := 0) (N := some 17) (v := ?_) (a' := ?_) #[true, false, false, false, false, false, false, false, false, true, false, false, false, false, true, false, false, false, false, false, false, false, false, false, false, false, false, false] rfl rfl (take_ofW HT_.out HW_.out (by kernel_rfl)) (fun _ _ _ h => h) (Or.inl ⟨by rfl, ?_⟩) hHeld ?_ ?_
        rotate_left
        · rintro w' ⟨s0, s1, s2, s3, s4⟩
          go_simp
          with_reducible rfl
        rotate_left
        · simp only [Act.put, List.setIfInBounds_toArray, List.set_cons_zero, List.set_cons_succ, i64_w, i32_w]
          rfl
        refine pure_ (i := 1) (N := some 18) (v := ?_) (a' := ?_) #[true, true, false, false, false, false, false, false, false, true, false, false, false, false, true, false, false, false, false, false, false, false, false, false, false, false, false, false] rfl rfl (any_of HT_.out (by kernel_rfl)) (fun _ _ _ h => h) (Or.inl ⟨by rfl, ?_⟩) ?_ ?_
        rotate_left
        · intro w'
          go_simp
          with_reducible rfl
        rotate_left
        · simp only [Act.put, List.setIfInBounds_toArray, List.set_cons_zero, List.set_cons_succ, i64_w, i32_w]
          rfl
        refine pure_ (i := 2) (N := some 19) (v := ?_) (a' := ?_) #[true, true, true, false, false, false, false, false, false, true, false, false, false, false, true, false, false, false, false, false, false, false, false, false, false, false, false, false] rfl rfl (any_of HT_.out (by kernel_rfl)) (fun _ _ _ h => h) (Or.inl ⟨by rfl, ?_⟩) ?_ ?_
        rotate_left
        · intro w'
          go_simp
          with_reducible rfl
        rotate_left
        · simp only [Act.put, List.setIfInBounds_toArray, List.set_cons_zero, List.set_cons_succ, i64_w, i32_w]
          rfl
        refine take_ (i := 3) (N := some 20) (v := ?_) (a' := ?_) #[true, true, true, true, false, false, false, false, false, true, false, false, false, false, true, false, false, false, false, false, false, false, false, false, false, false, false, false] rfl rfl (take_ofW HT_.out HW_.out (by kernel_rfl)) (fun _ _ _ h => h) (Or.inl ⟨by rfl, ?_⟩) hHeld ?_ ?_
        rotate_left
        · rintro w' ⟨s0, s1, s2, s3, s4⟩
          go_simp
          with_reducible rfl
        rotate_left
        · simp only [Act.put, List.setIfInBounds_toArray, List.set_cons_zero, List.set_cons_succ, i64_w, i32_w]
          rfl
        refine take_ (i := 4) (N := some 21) (v := ?_) (a' := ?_) #[true, true, true, true, true, false, false, false, false, true, false, false, false, false, true, false, false, false, false, false, false, false, false, false, false, false, false, false] rfl rfl (take_ofW HT_.out HW_.out (by kernel_rfl)) (fun _ _ _ h => h) (Or.inl ⟨by rfl, ?_⟩) hHeld ?_ ?_
        rotate_left
        · rintro w' ⟨s0, s1, s2, s3, s4⟩
          go_simp
          with_reducible rfl
        rotate_left
        · simp only [Act.put, List.setIfInBounds_toArray, List.set_cons_zero, List.set_cons_succ, i64_w, i32_w]
          rfl
        refine take_ (i := 5) (N := some 22) (v := ?_) (a' := ?_) #[true, true, true, true, true, true, false, false, false, true, false, false, false, false, true, false, false, false, false, false, false, false, false, false, false, false, false, false] rfl rfl (take_ofW HT_.out HW_.out (by kernel_rfl)) (fun _ _ _ h => h) (Or.inl ⟨by rfl, ?_⟩) hHeld ?_ ?_
        rotate_left
        · rintro w' ⟨s0, s1, s2, s3, s4⟩
          go_simp
          with_reducible rfl
        rotate_left
        · simp only [Act.put, List.setIfInBounds_toArray, List.set_cons_zero, List.set_cons_succ, i64_w, i32_w]
          rfl
        refine pure_ (i := 6) (N := some 23) (v := ?_) (a' := ?_) #[true, true, true, true, true, true, true, false, false, true, false, false, false, false, true, false, false, false, false, false, false, false, false, false, false, false, false, false] rfl rfl (any_of HT_.out (by kernel_rfl)) (fun _ _ _ h => h) (Or.inl ⟨by rfl, ?_⟩) ?_ ?_
        rotate_left
        · intro w'
          go_simp
          with_reducible rfl
        rotate_left
        · simp only [Act.put, List.setIfInBounds_toArray, List.set_cons_zero, List.set_cons_succ, i64_w, i32_w]
          rfl
        refine pure_ (i := 7) (N := some 24) (v := ?_) (a' := ?_) #[true, true, true, true, true, true, true, true, false, true, false, false, false, false, true, false, false, false, false, false, false, false, false, false, false, false, false, false] rfl rfl (any_of HT_.out (by kernel_rfl)) (fun _ _ _ h => h) (Or.inl ⟨by rfl, ?_⟩) ?_ ?_
        rotate_left
        · intro w'
          go_simp
          with_reducible rfl
        rotate_left
        · simp only [Act.put, List.setIfInBounds_toArray, List.set_cons_zero, List.set_cons_succ, i64_w, i32_w]
          rfl
        refine take_ (i := 8) (N := some 25) (v := ?_) (a' := ?_) #[true, true, true, true, true, true, true, true, true, true, false, false, false, false, true, false, false, false, false, false, false, false, false, false, false, false, false, false] rfl rfl (take_ofW HT_.out HW_.out (by kernel_rfl)) (fun _ _ _ h => h) (Or.inl ⟨by rfl, ?_⟩) hHeld ?_ ?_
        rotate_left
        · rintro w' ⟨s0, s1, s2, s3, s4⟩
          go_simp
          with_reducible rfl
        rotate_left
        · simp only [Act.put, List.setIfInBounds_toArray, List.set_cons_zero, List.set_cons_succ, i64_w, i32_w]
          rfl
        refine take_ (i := 10) (N := some 27) (v := ?_) (a' := ?_) #[true, true, true, true, true, true, true, true, true, true, true, false, false, false, true, false, false, false, false, false, false, false, false, false, false, false, false, false] rfl rfl (take_ofW HT_.out HW_.out (by kernel_rfl)) (fun _ _ _ h => h) (Or.inl ⟨by rfl, ?_⟩) hHeld ?_ ?_
        rotate_left
        · rintro w' ⟨s0, s1, s2, s3, s4⟩
          go_simp
          with_reducible rfl
        rotate_left
        · simp only [Act.put, List.setIfInBounds_toArray, List.set_cons_zero, List.set_cons_succ, i64_w, i32_w]
          rfl
        refine pure_ (i := 11) (N := some 28) (v := ?_) (a' := ?_) #[true, true, true, true, true, true, true, true, true, true, true, true, false, false, true, false, false, false, false, false, false, false, false, false, false, false, false, false] rfl rfl (any_of HT_.out (by kernel_rfl)) (fun _ _ _ h => h) (Or.inl ⟨by rfl, ?_⟩) ?_ ?_
        rotate_left
        · intro w'
          go_simp
          with_reducible rfl
        rotate_left
        · simp only [Act.put, List.setIfInBounds_toArray, List.set_cons_zero, List.set_cons_succ, i64_w, i32_w]
          rfl
        refine pure_ (i := 12) (N := some 29) (v := ?_) (a' := ?_) #[true, true, true, true, true, true, true, true, true, true, true, true, true, false, true, false, false, false, false, false, false, false, false, false, false, false, false, false] rfl rfl (any_of HT_.out (by kernel_rfl)) (fun _ _ _ h => h) (Or.inl ⟨by rfl, ?_⟩) ?_ ?_
        rotate_left
        · intro w'
          go_simp
          with_reducible rfl
        rotate_left
        · simp only [Act.put, List.setIfInBounds_toArray, List.set_cons_zero, List.set_cons_succ, i64_w, i32_w]
          rfl
        refine take_ (i := 13) (N := some 30) (v := ?_) (a' := ?_) #[true, true, true, true, true, true, true, true, true, true, true, true, true, true, true, false, false, false, false, false, false, false, false, false, false, false, false, false] rfl rfl (take_ofW HT_.out HW_.out (by kernel_rfl)) (fun _ _ _ h => h) (Or.inl ⟨by rfl, ?_⟩) hHeld ?_ ?_
        rotate_left
        · rintro w' ⟨s0, s1, s2, s3, s4⟩
          go_simp
          with_reducible rfl
        rotate_left
        · simp only [Act.put, List.setIfInBounds_toArray, List.set_cons_zero, List.set_cons_succ, i64_w, i32_w]
          rfl
        refine pure_ (i := 15) (N := some 32) (v := ?_) (a' := ?_) #[true, true, true, true, true, true, true, true, true, true, true, true, true, true, true, true, false, false, false, false, false, false, false, false, false, false, false, false] rfl rfl (any_of HT_.out (by kernel_rfl)) (fun _ _ _ h => h) (Or.inl ⟨by rfl, ?_⟩) ?_ ?_
        rotate_left
        · intro w'
          go_simp
          with_reducible rfl
        rotate_left
        · simp only [Act.put, List.setIfInBounds_toArray, List.set_cons_zero, List.set_cons_succ, i64_w, i32_w]
          rfl
        refine take_ (i := 16) (N := some 33) (v := ?_) (a' := ?_) #[true, true, true, true, true, true, true, true, true, true, true, true, true, true, true, true, true, false, false, false, false, false, false, false, false, false, false, false] rfl rfl (take_ofW HT_.out HW_.out (by kernel_rfl)) (fun _ _ _ h => h) (Or.inl ⟨by rfl, ?_⟩) hHeld ?_ ?_
        rotate_left
        · rintro w' ⟨s0, s1, s2, s3, s4⟩
          go_simp
          with_reducible rfl
        rotate_left
        · simp only [Act.put, List.setIfInBounds_toArray, List.set_cons_zero, List.set_cons_succ, i64_w, i32_w]
          rfl
        refine take_ (i := 17) (N := some 34) (v := ?_) (a' := ?_) #[true, true, true, true, true, true, true, true, true, true, true, true, true, true, true, true, true, true, false, false, false, false, false, false, false, false, false, false] rfl rfl (take_ofW HT_.out HW_.out (by kernel_rfl)) (fun _ _ _ h => h) (Or.inl ⟨by rfl, ?_⟩) hHeld ?_ ?_
        rotate_left
        · rintro w' ⟨s0, s1, s2, s3, s4⟩
          go_simp
          with_reducible rfl
        rotate_left
        · simp only [Act.put, List.setIfInBounds_toArray, List.set_cons_zero, List.set_cons_succ, i64_w, i32_w]
          rfl
        refine pure_ (i := 18) (N := some 35) (v := ?_) (a' := ?_) #[true, true, true, true, true, true, true, true, true, true, true, true, true, true, true, true, true, true, true, false, false, false, false, false, false, false, false, false] rfl rfl (any_of HT_.out (by kernel_rfl)) (fun _ _ _ h => h) (Or.inl ⟨by rfl, ?_⟩) ?_ ?_
        rotate_left
        · intro w'
          go_simp
          with_reducible rfl
        rotate_left
        · simp only [Act.put, List.setIfInBounds_toArray, List.set_cons_zero, List.set_cons_succ, i64_w, i32_w]
          rfl
        refine pure_ (i := 19) (N := some 36) (v := ?_) (a' := ?_) #[true, true, true, true, true, true, true, true, true, true, true, true, true, true, true, true, true, true, true, true, false, false, false, false, false, false, false, false] rfl rfl (any_of HT_.out (by kernel_rfl)) (fun _ _ _ h => h) (Or.inl ⟨by rfl, ?_⟩) ?_ ?_
        rotate_left
        · intro w'
          go_simp
          with_reducible rfl
        rotate_left
        · simp only [Act.put, List.setIfInBounds_toArray, List.set_cons_zero, List.set_cons_succ, i64_w, i32_w]
          rfl
        refine take_ (i := 20) (N := some 37) (v := ?_) (a' := ?_) #[true, true, true, true, true, true, true, true, true, true, true, true, true, true, true, true, true, true, true, true, true, false, false, false, false, false, false, false] rfl rfl (take_ofW HT_.out HW_.out (by kernel_rfl)) (fun _ _ _ h => h) (Or.inl ⟨by rfl, ?_⟩) hHeld ?_ ?_
        rotate_left
        · rintro w' ⟨s0, s1, s2, s3, s4⟩
          go_simp
          with_reducible rfl
        rotate_left
        · simp only [Act.put, List.setIfInBounds_toArray, List.set_cons_zero, List.set_cons_succ, i64_w, i32_w]
          rfl
        refine take_ (i := 21) (N := some 38) (v := ?_) (a' := ?_) #[true, true, true, true, true, true, true, true, true, true, true, true, true, true, true, true, true, true, true, true, true, true, false, false, false, false, false, false] rfl rfl (take_ofW HT_.out HW_.out (by kernel_rfl)) (fun _ _ _ h => h) (Or.inl ⟨by rfl, ?_⟩) hHeld ?_ ?_
        rotate_left
        · rintro w' ⟨s0, s1, s2, s3, s4⟩
          go_simp
          with_reducible rfl
        rotate_left
        · simp only [Act.put, List.setIfInBounds_toArray, List.set_cons_zero, List.set_cons_succ, i64_w, i32_w]
          rfl
        refine pure_ (i := 22) (N := some 39) (v := ?_) (a' := ?_) #[true, true, true, true, true, true, true, true, true, true, true, true, true, true, true, true, true, true, true, true, true, true, true, false, false, false, false, false] rfl rfl (any_of HT_.out (by kernel_rfl)) (fun _ _ _ h => h) (Or.inl ⟨by rfl, ?_⟩) ?_ ?_
        rotate_left
        · intro w'
          go_simp
          with_reducible rfl
        rotate_left
        · simp only [Act.put, List.setIfInBounds_toArray, List.set_cons_zero, List.set_cons_succ, i64_w, i32_w]
          rfl
        refine take_ (i := 23) (N := some 40) (v := ?_) (a' := ?_) #[true, true, true, true, true, true, true, true, true, true, true, true, true, true, true, true, true, true, true, true, true, true, true, true, false, false, false, false] rfl rfl (take_ofW HT_.out HW_.out (by kernel_rfl)) (fun _ _ _ h => h) (Or.inl ⟨by rfl, ?_⟩) hHeld ?_ ?_
        rotate_left
        · rintro w' ⟨s0, s1, s2, s3, s4⟩
          go_simp
          with_reducible rfl
        rotate_left
        · simp only [Act.put, List.setIfInBounds_toArray, List.set_cons_zero, List.set_cons_succ, i64_w, i32_w]
          rfl
        refine pure_ (i := 24) (N := some 41) (v := ?_) (a' := ?_) #[true, true, true, true, true, true, true, true, true, true, true, true, true, true, true, true, true, true, true, true, true, true, true, true, true, false, false, false] rfl rfl (any_of HT_.out (by kernel_rfl)) (fun _ _ _ h => h) (Or.inl ⟨by rfl, ?_⟩) ?_ ?_
        rotate_left
        · intro w'
          go_simp
          with_reducible rfl
        rotate_left
        · simp only [Act.put, List.setIfInBounds_toArray, List.set_cons_zero, List.set_cons_succ, i64_w, i32_w]
          rfl
        refine last_ (i := 25) (N := none) #[true, true, true, true, true, true, true, true, true, true, true, true, true, true, true, true, true, true, true, true, true, true, true, true, true, true, false, false] rfl rfl (one_of HT_.out (by kernel_rfl)) (by decide) (fun K hK => ?_)
        refine skip_ (w1 := ?_) (by rfl) rfl ?_ ?_
        rotate_left
        · go_simp
          rfl
        refine hK.out _ _ ?_
        clear hK K
        refine pure_ (i := 26) (N := some 42) (v := ?_) (a' := ?_) #[true, true, true, true, true, true, true, true, true, true, true, true, true, true, true, true, true, true, true, true, true, true, true, true, true, true, true, false] rfl rfl (any_of HT_.out (by kernel_rfl)) (fun _ _ _ h => h) (Or.inl ⟨by rfl, ?_⟩) ?_ ?_
        rotate_left
        · intro w'
          go_simp
          with_reducible rfl
        rotate_left
        · simp only [Act.put, List.setIfInBounds_toArray, List.set_cons_zero, List.set_cons_succ, i64_w, i32_w]
          rfl
        have hx2 : (W1.setCell ⟨gr, piv.length, none⟩ (.slice Ak nk ck)).cell? ⟨gr, k, none⟩ = some (.slice Ak nk ck) := by
          by_cases e : piv.length = k
          · subst e
            exact World.cell?_setCell_same' W1 _ _ (by rw [hHeld.2.2.2.1]; rfl)
          · exact (World.cell?_setCell_other W1 _ _ _ (by intro h; injection h with h1 h2; exact e h2)).trans hHeld.2.2.2.1
        refine last_ (i := 27) (N := none) #[true, true, true, true, true, true, true, true, true, true, true, true, true, true, true, true, true, true, true, true, true, true, true, true, true, true, true, true] rfl rfl (one_of HT_.out (by kernel_rfl)) (by decide) (fun K hK => ?_)
        refine skip_ (w1 := ?_) (by rfl) rfl ?_ ?_
        rotate_left
        · go_simp
          rfl
        refine hK.out _ _ ?_
        clear hK K
        refine done_ (done_of HT_.out (by kernel_rfl)) ?_
        have HC2 := Aside0.mk (HC.out.swap HL1.out HL2.out hHeld.2.2.2.2 hHeld.2.2.2.1)
        clear HC hfp hfk hHeld hx2
        generalize ((W1.setCell ⟨gr, piv.length, none⟩ (.slice Ak nk ck)).setCell ⟨gr, k, none⟩ (.slice Ap np cp)) = W2 at HC2 ⊢
        clear W1
        have HRS := Aside0.mk (swapRows_rows HR.out HL1.out HL2.out)
        have HSS := Aside0.mk (show elimStep (Rj, piv, det) j = (clearRows (scaleRow (swapRows Rj piv.length k) piv.length j) piv.length j, piv ++ [j], gmul det (((swapRows Rj piv.length k).getD piv.length []).getD j 0)) by unfold elimStep; simp only []; rw [HFE.out])
        have HSL := Aside0.mk (swapRows_length Rj piv.length k)
        generalize swapRows Rj piv.length k = R1 at HC2 HRS HSS HSL
        have HR1 := Aside0.mk (show piv.length < R1.length by rw [HSL.out]; exact HL1.out)
        have HRL := Aside0.mk (HRS.out _ (getD_mem' (l := R1) (i := piv.length) HR1.out))
        have HS2 := Aside0.mk (scaleRow_rows HRS.out j HR1.out)
        have HN1 := Aside0.mk (show R1.length ≤ 64 by rw [HSL.out, show Rj.length = R.length from HL.out]; exact hn)
        have hxb := HC2.out.boxc
        have hxr := HC2.out.rowc
        have hxc := HC2.out.colc
        go_wp2_with (first | (go_at_call 103; (with_reducible refine (escale_calls HC2.out.elim piv.length j HR1.out (by rw [HRL.out]; omega) (by rw [HRL.out]; omega) (by have := HN1.out; omega)).mono ?_); rintro e w7 ⟨rfl, hE7, hF7⟩; have HC3 := Aside0.mk (HC2.out.framed hE7 hF7); clear hE7 hF7 hxb hxr hxc; have hxb := HC3.out.boxc; have hxr := HC3.out.rowc; have hxc := HC3.out.colc) | (go_at_call 104; (with_reducible refine (eclear_calls HC3.out.elim piv.length j (by rw [scaleRow_length]; exact HR1.out) HS2.out (by omega) (by omega) (by rw [scaleRow_length]; have := HN1.out; omega)).mono ?_); rintro e w8 ⟨rfl, hE8, hF8⟩; have HC4 := Aside0.mk (HC3.out.framed hE8 hF8); clear hE8 hF8 hxb hxr hxc; have hxb := HC4.out.boxc; have hxr := HC4.out.rowc; have hxc := HC4.out.colc))
        clear HC2 HC3 w7
        obtain ⟨vq, hxv, hRv⟩ := HC4.out.elim.piv'
        obtain ⟨Aq, cq, rfl⟩ := Kd.R_slice hRv
        have HRV := Aside0.mk hRv
        have hpl : piv.length ≤ 64 := by have := HR1.out; have := HN1.out; omega
        clear hRv hxr
        have hfx1 := HC4.out.elim.cells.2.2 1
        refine start_ (n := 11) (S := fun w' => w'.cell? ⟨gbx, 0, none⟩ = some (.pointer (some ⟨gx, 0, none⟩)) ∧ w'.cell? ⟨gx, 1, none⟩ = some (.slice Aq (natInts piv).length cq) ∧ w'.cell? ⟨gcol, 0, none⟩ = some (.int .i64 (j : Int))) (ds := [10]) #[false, false, false, false, false, false, false, false, false, false, false] (by kernel_rfl) rfl rfl ⟨hxb, hxv, hxc⟩ (fun hHeld => ?_)
        refine with_tabW f87.tab11 f87.bits11 (fun HT_ HW_ => ?_)
        have HC5 := Aside0.mk HC4.out.drew
        replace HRV := Aside0.mk (Kd.R_below HRV.out (below_drew (Below.refl _ _)))
        have HXV := Aside0.mk hHeld.2.1
        replace hfx1 : w8.drew.frozen? ⟨gx, 1, none⟩ = false := hfx1
        clear hxb hxv hxc
        generalize w8.drew = W3 at HC5 HRV HXV hHeld hfx1 ⊢
        refine take_ (i := 0) (N := some 51) (v := ?_) (a' := ?_) #[true, false, false, false, false, false, false, false, false, false, false] rfl rfl (take_ofW HT_.out HW_.out (by kernel_rfl)) (fun _ _ _ h => h) (Or.inl ⟨by rfl, ?_⟩) hHeld ?_ ?_
        rotate_left
        · rintro w' ⟨s0, s1, s2⟩
          go_simp
          with_reducible rfl
        rotate_left
        · simp only [Act.put, List.setIfInBounds_toArray, List.set_cons_zero, List.set_cons_succ, i64_w, i32_w]
          rfl
        refine take_ (i := 1) (N := some 52) (v := ?_) (a' := ?_) #[true, true, false, false, false, false, false, false, false, false, false] rfl rfl (take_ofW HT_.out HW_.out (by kernel_rfl)) (fun _ _ _ h => h) (Or.inl ⟨by rfl, ?_⟩) hHeld ?_ ?_
        rotate_left
        · rintro w' ⟨s0, s1, s2⟩
          go_simp
          with_reducible rfl
        rotate_left
        · simp only [Act.put, List.setIfInBounds_toArray, List.set_cons_zero, List.set_cons_succ, i64_w, i32_w]
          rfl
        refine pure_ (i := 2) (N := some 53) (v := ?_) (a' := ?_) #[true, true, true, false, false, false, false, false, false, false, false] rfl rfl (any_of HT_.out (by kernel_rfl)) (fun _ _ _ h => h) (Or.inl ⟨by rfl, ?_⟩) ?_ ?_
        rotate_left
        · intro w'
          go_simp
          with_reducible rfl
        rotate_left
        · simp only [Act.put, List.setIfInBounds_toArray, List.set_cons_zero, List.set_cons_succ, i64_w, i32_w]
          rfl
        refine pure_ (i := 3) (N := some 54) (v := ?_) (a' := ?_) #[true, true, true, true, false, false, false, false, false, false, false] rfl rfl (any_of HT_.out (by kernel_rfl)) (fun _ _ _ h => h) (Or.inl ⟨by rfl, ?_⟩) ?_ ?_
        rotate_left
        · intro w'
          go_simp
          with_reducible rfl
        rotate_left
        · simp only [Act.put, List.setIfInBounds_toArray, List.set_cons_zero, List.set_cons_succ, i64_w, i32_w]
          rfl
        refine take_ (i := 4) (N := some 55) (v := ?_) (a' := ?_) #[true, true, true, true, true, false, false, false, false, false, false] rfl rfl (take_ofW HT_.out HW_.out (by kernel_rfl)) (fun _ _ _ h => h) (Or.inl ⟨by rfl, ?_⟩) hHeld ?_ ?_
        rotate_left
        · rintro w' ⟨s0, s1, s2⟩
          go_simp
          with_reducible rfl
        rotate_left
        · simp only [Act.put, List.setIfInBounds_toArray, List.set_cons_zero, List.set_cons_succ, i64_w, i32_w]
          rfl
        refine take_ (i := 5) (N := some 56) (v := ?_) (a' := ?_) #[true, true, true, true, true, true, false, false, false, false, false] rfl rfl (take_ofW HT_.out HW_.out (by kernel_rfl)) (fun _ _ _ h => h) (Or.inl ⟨by rfl, ?_⟩) hHeld ?_ ?_
        rotate_left
        · rintro w' ⟨s0, s1, s2⟩
          go_simp
          with_reducible rfl
        rotate_left
        · simp only [Act.put, List.setIfInBounds_toArray, List.set_cons_zero, List.set_cons_succ, i64_w, i32_w]
          rfl
        refine one_ (i := 6) (N := some 57) #[true, true, true, true, true, true, true, false, false, false, false] rfl rfl (one_of HT_.out (by kernel_rfl)) (by decide) (fun K hK => ?_)
        refine event_step (v := .slice (some ⟨W3.heap.size, 0, none⟩) 1 1) (w1 := W3.alloc (.cells #[.int .i64 (j : Int)] 3 (0, 0))) (by rfl) (by first | (go_simp; done) | (go_simp; rfl)) ?_
        refine hK.out _ _ ⟨((below_alloc (Below.refl _ _) _).cell (blk_lt HC5.out.box)).trans hHeld.1, ((below_alloc (Below.refl _ _) _).cell HC5.out.elim.lt).trans hHeld.2.1, ((below_alloc (Below.refl _ _) _).cell (blk_lt HC5.out.col)).trans hHeld.2.2⟩ (fun hHeld => ?_)
        clear hK K
        refine norm_ (a' := ?_) ?_ ?_
        rotate_left
        · show Act.put _ (some 57) _ = _
          simp only [Act.put, List.setIfInBounds_toArray, List.set_cons_zero, List.set_cons_succ, i64_w, i32_w]
          rfl
        refine one_ (i := 7) (N := some 58) #[true, true, true, true, true, true, true, true, false, false, false] rfl rfl (one_of HT_.out (by kernel_rfl)) (by decide) (fun K hK => ?_)
        refine Kd.R_append_step (Kd.int .i64) (w0 := W3) base (by rfl) (.tmp 55) (.tmp 57) 29 3 (.int .i64 0) 8 rfl rfl rfl rfl (by decide) (by decide) (.slice Aq (natInts piv).length cq) (natInts piv) (j : Int) [.int .i64 (j : Int)] (fun k => ¬ colX gbx grow gcol k ∧ k ≠ gx ∧ k ≠ gr) (fun _ => False) rfl rfl rfl (fun _ hk => hk.elim) (fun k hk => ?hfresh) HRV.out (Below.refl _ _) ?hbase ?hlen ?_
        case hfresh => have h1 := blk_lt HC5.out.box; have h2 := blk_lt HC5.out.row; have h3 := blk_lt HC5.out.col; have h4 := HC5.out.elim.lt; have h5 := HC5.out.elim.ltr; exact ⟨by rintro (((h | h) | h) | h) <;> omega, by omega, by omega⟩
        case hbase => have h1 := blk_lt HC5.out.box; have h2 := HC5.out.base2; omega
        case hlen => rw [natInts, List.length_map]; omega
        intro v4 W4 hR6 hB6 hG6 hO6
        obtain ⟨A4, c4, rfl⟩ := Kd.R_slice hR6
        generalize (natInts piv ++ [(j : Int)]).length = n4 at *
        have HR6 := Aside0.mk hR6
        have HB6 := Aside0.mk hB6
        have HG6 := Aside0.mk hG6
        have HN6 := Aside0.mk (HC5.out.append HXV.out hR6 hG6 (HC5.out.below.trans hB6))
        clear hR6 hB6 hG6 hO6
        have hne : ∀ g, colX gbx grow gcol g ∨ g = gx → some g ≠ (Value.slice Aq (natInts piv).length cq).ownBlock := fun g hg e => hg.elim (fun h => (HRV.out.1 g e.symm).1 h) (fun h => (HRV.out.1 g e.symm).2.1 h)
        have hq1 := blk_grown HC5.out.box HG6.out (hne _ (.inl (.inl (.inl (.inr rfl)))))
        have hq2 := blk_grown HC5.out.col HG6.out (hne _ (.inl (.inr rfl)))
        have hq3 := (HG6.out.block gx HC5.out.elim.lt (hne _ (.inr rfl)))
        replace hfx1 : W4.frozen? ⟨gx, 1, none⟩ = false := by rw [← hfx1]; unfold World.frozen?; rw [hq3]
        refine hK.out _ _ ⟨by rw [blk_cell hq1]; rfl, (World.cell?_of_block hq3).trans HXV.out, by rw [blk_cell hq2]; rfl⟩ (fun hHeld => ?_)
        clear hne hq1 hq2 hq3
        clear hK K
        refine norm_ (a' := ?_) ?_ ?_
        rotate_left
        · show Act.put _ (some 58) _ = _
          simp only [Act.put, List.setIfInBounds_toArray, List.set_cons_zero, List.set_cons_succ, i64_w, i32_w]
          rfl
        refine pure_ (i := 8) (N := some 59) (v := ?_) (a' := ?_) #[true, true, true, true, true, true, true, true, true, false, false] rfl rfl (any_of HT_.out (by kernel_rfl)) (fun _ _ _ h => h) (Or.inl ⟨by rfl, ?_⟩) ?_ ?_
        rotate_left
        · intro w'
          go_simp
          with_reducible rfl
        rotate_left
        · simp only [Act.put, List.setIfInBounds_toArray, List.set_cons_zero, List.set_cons_succ, i64_w, i32_w]
          rfl
        refine pure_ (i := 9) (N := some 60) (v := ?_) (a' := ?_) #[true, true, true, true, true, true, true, true, true, true, false] rfl rfl (any_of HT_.out (by kernel_rfl)) (fun _ _ _ h => h) (Or.inl ⟨by rfl, ?_⟩) ?_ ?_
        rotate_left
        · intro w'
          go_simp
          with_reducible rfl
        rotate_left
        · simp only [Act.put, List.setIfInBounds_toArray, List.set_cons_zero, List.set_cons_succ, i64_w, i32_w]
          rfl
        refine last_ (i := 10) (N := none) #[true, true, true, true, true, true, true, true, true, true, true] rfl rfl (one_of HT_.out (by kernel_rfl)) (by decide) (fun K hK => ?_)
        refine skip_ (w1 := ?_) (by rfl) rfl ?_ ?_
        rotate_left
        · go_simp
          rfl
        refine hK.out _ _ ?_
        clear hK K
        refine done_ (done_of HT_.out (by kernel_rfl)) ?_
        have HC6 := HN6
        clear HC4 HC5 HR6 HG6 HXV HRV HB6 HN6 hHeld hfx1
        generalize (W4.setCell ⟨gx, 1, none⟩ (.slice A4 n4 c4)) = W5 at HC6 ⊢
        clear W4
        have hxr := HC6.out.rowc
        have hfr := HC6.out.rowf
        have hl4 : (clearRows (scaleRow R1 piv.length j) piv.length j).length = R.length := by rw [clearRows_length, scaleRow_length, HSL.out]; exact HL.out
        have HX5 := Aside0.mk hl4
        clear hl4
        go_wp2
        have HC7 : Aside0 (ColSt w0 (W5.setCell ⟨grow, 0, none⟩ (.int .i64 ((piv.length : Int) + 1))) base gx gr c gbx grow gcol j (piv ++ [j]).length (clearRows (scaleRow R1 piv.length j) piv.length j) (natInts (piv ++ [j])) (gmul det (((R1).getD piv.length []).getD j 0))) := by
          have h := HC6.out.inc (piv.length + 1)
          have e : natInts piv ++ [(j : Int)] = natInts (piv ++ [j]) := by simp [natInts]
          have e2 : (piv ++ [j]).length = piv.length + 1 := by simp
          rw [e] at h
          rw [e2]
          exact ⟨h⟩
        clear hxr hfr HC6
        generalize (W5.setCell ⟨grow, 0, none⟩ (.int .i64 ((piv.length : Int) + 1))) = W6 at HC7 ⊢
        clear W5
        have hxr : W6.cell? ⟨grow, 0, none⟩ = some (.int .i64 ((piv.length : Int) + 1)) := by
          have := HC7.out.rowc
          rw [this]; simp
        have hxb := HC7.out.boxc
        have hx0 := HC7.out.elim.cells.1
        rw [HX5.out] at hx0
        have HRS1 : Aside0 (∀ w, ColSt w0 w base gx gr c gbx grow gcol j (piv ++ [j]).length (clearRows (scaleRow R1 piv.length j) piv.length j) (natInts (piv ++ [j])) (gmul det (((R1).getD piv.length []).getD j 0)) → RunSt w0 w base gx gr c gbx grow (elimRun R (j + 1))) := ⟨fun w h => by rw [HS.out, HSS.out]; exact h.run⟩
        have HFU : Aside0 (piv.length + 1 = R.length → elimRun R cols = elimRun R (j + 1)) := ⟨fun e => by
          have := elimRun_full (R := R) (n := j + 1) (by rw [HS.out, HSS.out]; simp; omega) (cols - (j + 1))
          rw [← this]; congr 1; omega⟩
        clear HRS HSS HSL HR1 HRL HS2 HN1 HX5 HS HFI HFE HK HL1 HL2
        by_cases hfull : piv.length + 1 = R.length
        · have ht : (((piv.length : Int) + 1) == (R.length : Int)) = true := by rw [beq_iff_eq]; omega
          have HFU2 := Aside0.mk (HFU.out hfull)
          clear hfull HFU
          go_wp2
          go_quiet (fail)
          go_wp2
          unfold Exit.noGoto
          go_end0
          have hF := HRS1.out _ (HC7.out.drewN nq)
          rw [← HFU2.out] at hF
          exact ⟨rfl, hF.elim.weaken (fun _ (hk : False) => hk.elim), hF.below⟩
        · have ht : (((piv.length : Int) + 1) == (R.length : Int)) = false := by rw [beq_eq_false_iff_ne]; omega
          clear hfull HFU
          go_wp2
          go_quiet (fail)
          go_wp2
          go_roundw
          case rel => exact ⟨j + 1, by omega, by go_num, ⟨HRS1.out _ (HC7.out.drewN nq)⟩⟩
          case measure => simp [intOf]; omega
    · obtain rfl : j = cols := by omega
      go_wp2
      unfold Exit.noGoto
      go_end0
      exact ⟨rfl, HA.out.elim.weaken (fun _ (hk : False) => hk.elim), HA.out.below⟩
end Go.Proofs.Ytpkghpljgjlmjaa.K
/- The elimination of package matrix: the walk of eliminate. -/
namespace Go.Proofs.Ytpkghpljgjlmjaa.K
open Go.RowKit Go.Proofs.YtpkghpljgjlmjaaW.PrintWords Go.Proofs.YtpkghpljgjlmjaaW.PrintLast Go.Proofs.YtpkghpljgjlmjaaW.PrintMore Kin
set_option linter.unusedVariables false
set_option linter.unusedSimpArgs false
/-- What an elimination has come to, at block gx. -/
structure ElimOut (w : World) (base gx : Nat) (s : ES) : Prop where
  out : ∃ vr vp, w.heap[gx]? = some (.cells #[vr, vp, .int .u8 (b2i s.2.2)] 80 (0, 0)) ∧ Kd.S D 34 w base (fun _ => True) vr (up2 s.1) ∧ Kd.R (Kd.int .i64) 3 w base (fun _ => True) vp (natInts s.2.1)
theorem Elim.toOut {w : World} {base gx gr c : Nat} {X : Nat → Prop} {s : ES} (h : Elim w base gx gr c X s.1 (natInts s.2.1) s.2.2) : ElimOut w base gx s := by
  obtain ⟨vp, hg, hp⟩ := h.piv
  exact ⟨⟨_, vp, hg, h.rows, Kd.R_mono hp (fun _ _ => trivial)⟩⟩
set_option maxRecDepth 100000 in
set_option maxHeartbeats 2000000 in
theorem run_zero (w : World) (p : Option Addr) : Calls Try.prog 87 #[.pointer p, .int .i64 0] w fun e w' => e = .returned (.tuple #[]) ∧ Below w.heap.size w w' := by
  have HBB := Aside0.mk (Below.refl w.heap.size w)
  go_enter Try.func87, Try.ntmps87
  go_wp2_with (first | ((with_reducible refine gate_dst (N := 2) rfl ?_); refine box_event rfl (N := 2) rfl (cs := #[.pointer p]) (t := 77) ?hrun ?_; (case hrun => first | (go_simp; done) | (go_simp; rfl)); intro gbx hgb w1 hb1 hB1; have HG1 := Aside0.mk hgb; have HB1 := Aside0.mk hB1; clear hgb hb1 hB1) | ((with_reducible refine gate_dst (N := 4) rfl ?_); refine box_event rfl (N := 4) rfl (cs := #[.int .i64 0]) (t := 3) ?hrun ?_; (case hrun => first | (go_simp; done) | (go_simp; rfl)); intro grow hgr w2 hb2 hB2; have HG2 := Aside0.mk hgr; have HB2 := Aside0.mk hB2; have hxr := blk_cell hb2 0; have hfr := blk_frozen hb2 0; clear hgr hb2 hB2))
  go_frame
  go_step3
  go_wp2_with (first | ((with_reducible refine gate_dst (N := 2) rfl ?_); refine box_event rfl (N := 2) rfl (cs := #[.pointer p]) (t := 77) ?hrun ?_; (case hrun => first | (go_simp; done) | (go_simp; rfl)); intro gbx hgb w1 hb1 hB1; have HG1 := Aside0.mk hgb; have HB1 := Aside0.mk hB1; clear hgb hb1 hB1) | ((with_reducible refine gate_dst (N := 4) rfl ?_); refine box_event rfl (N := 4) rfl (cs := #[.int .i64 0]) (t := 3) ?hrun ?_; (case hrun => first | (go_simp; done) | (go_simp; rfl)); intro grow hgr w2 hb2 hB2; have HG2 := Aside0.mk hgr; have HB2 := Aside0.mk hB2; have hxr := blk_cell hb2 0; have hfr := blk_frozen hb2 0; clear hgr hb2 hB2))
  go_step3
  go_wp2_with (first | ((with_reducible refine gate_dst (N := 2) rfl ?_); refine box_event rfl (N := 2) rfl (cs := #[.pointer p]) (t := 77) ?hrun ?_; (case hrun => first | (go_simp; done) | (go_simp; rfl)); intro gbx hgb w1 hb1 hB1; have HG1 := Aside0.mk hgb; have HB1 := Aside0.mk hB1; clear hgb hb1 hB1) | ((with_reducible refine gate_dst (N := 4) rfl ?_); refine box_event rfl (N := 4) rfl (cs := #[.int .i64 0]) (t := 3) ?hrun ?_; (case hrun => first | (go_simp; done) | (go_simp; rfl)); intro grow hgr w2 hb2 hB2; have HG2 := Aside0.mk hgr; have HB2 := Aside0.mk hB2; have hxr := blk_cell hb2 0; have hfr := blk_frozen hb2 0; clear hgr hb2 hB2))
  have HB := Aside0.mk (((HB1.out.trans (HB2.out.mono HB1.out.size))).setCell (p := ⟨grow, 0, none⟩) (by show w.heap.size ≤ grow; rw [HG2.out]; exact HB1.out.size) (.int .i64 0))
  clear hxr hfr HG1 HB1 HG2 HB2
  generalize (w2.setCell ⟨grow, 0, none⟩ (.int .i64 0)) = W0 at HB ⊢
  clear w1 w2
  go_loopw [9] (fun v9 wr => v9 = .int .i64 0 ∧ Aside0 (Below w.heap.size w wr)) (fun v9 _ => 0)
  case atStart => exact ⟨rfl, HB⟩
  case round =>
    obtain ⟨rfl, HA⟩ := hrel
    go_wp2
    unfold Exit.noGoto
    go_end0
    exact ⟨rfl, HA.out⟩
theorem run_any {w0 w4 w5 : World} {base gx c4 cols m : Nat} {A4 : Option Addr} {R : List (List B)} (hS : Kd.S D 34 w4 base (fun _ => True) (.slice A4 (up2 R).length c4) (up2 R)) (hg : gx = w4.heap.size)
    (hb : w5.heap[gx]? = some (.cells #[.slice A4 (up2 R).length c4, .slice none 0 0, .int .u8 1] 80 (0, 0))) (hB : Below w4.heap.size w4 w5) (hB0 : Below base w0 w4) (hbase : base ≤ w4.heap.size)
    (hm : ∀ r ∈ R, r.length = m) (hcols : cols ≤ m) (hlim : m ≤ 1000) (hn : R.length ≤ 64) (h0 : R = [] → cols = 0) :
    Calls Try.prog 87 #[.pointer (some ⟨gx, 0, none⟩), .int .i64 (cols : Int)] w5 fun e w' => e = .returned (.tuple #[]) ∧ ElimOut w' base gx (elimRun R cols) ∧ Below base w0 w' := by
  have hB5 : Below base w0 w5 := hB0.trans (hB.mono hbase)
  have hS5 := Kd.S_below hS hB
  by_cases hR : R = []
  · obtain rfl := h0 hR
    subst hR
    refine (run_zero w5 _).mono ?_
    rintro e w' ⟨rfl, hb'⟩
    refine ⟨rfl, ⟨_, .slice none 0 0, (hb'.block _ (blk_lt hb)).trans hb, Kd.S_below hS5 hb', Kd.R_nil _ _ _ _ _⟩, hB5.trans (hb'.mono ?_)⟩
    have := hB.size
    omega
  · obtain ⟨inner, ho⟩ := Kd.S_own hS
    have hl : 0 < (up2 R).length := by
      rw [up2_length]
      exact List.length_pos_iff.2 hR
    obtain ⟨gr, rfl⟩ : ∃ gr, A4 = some ⟨gr, 0, none⟩ := by
      rcases ho.2 with ⟨e, e2⟩ | ⟨g, cap, cur, e, _⟩
      · injection e with e1 e2 e3
        omega
      · injection e with e1 e2 e3
        exact ⟨g, e1⟩
    have hgr := Kd.S_lt hS gr rfl
    have hbr := Kd.S_base hS gr rfl
    rw [up2_length] at hb hS5
    have hE : Elim w5 base gx gr c4 (fun _ => False) R [] 1 := ⟨⟨_, hb, Kd.R_nil _ _ _ _ _⟩, hS5, by omega, by omega, by omega⟩
    refine (run_calls hE hB5 cols hm hcols hlim hn).mono ?_
    rintro e w' ⟨rfl, hE', hB'⟩
    exact ⟨rfl, hE'.toOut, hB'⟩
set_option maxRecDepth 100000 in
set_option maxHeartbeats 2000000 in
theorem eliminate_calls (A0 : Option Addr) (c0 : Nat) (R : List (List B)) (cols m : Nat) (w : World) (hr0 : Kd.C (Kd.slice 5 (Kd.int .u8)) w A0 (up2 R).length (up2 R)) (hc0 : (up2 R).length ≤ c0) (hm : ∀ r ∈ R, r.length = m) (hcols : cols ≤ m) (hlim : m ≤ 1000) (hn : R.length ≤ 64) (h0 : R = [] → cols = 0) :
    Calls Try.prog 62 #[.slice A0 (up2 R).length c0, .int .i64 (cols : Int)] w fun e w' => ∃ gx, e = .returned (.pointer (some ⟨gx, 0, none⟩)) ∧ ElimOut w' w.heap.size gx (elimRun R cols) ∧ Below w.heap.size w w' := by
  have HC := Aside0.mk (clone_eq (up2 R) (by rw [up2_length]; omega) (by
    intro x hx
    obtain ⟨r, hr, rfl⟩ := List.mem_map.1 hx
    rw [up_length, hm r hr]; omega) (k := R.length + 1) (by rw [up2_length]; omega))
  have HR0 := Aside0.mk hr0
  have HC0 := Aside0.mk hc0
  have HM := Aside0.mk hm
  clear hr0 hc0 hm
  go_enter Try.func62, Try.ntmps62
  go_wp2_with (first | (go_at_call 86; (with_reducible refine (matrix_clone.calls (R.length + 1) _ _ (up2 R) _ _ HR0.out HC0.out HC.out).mono ?_); rintro e w4 ⟨v4, rfl, hv4, hb4⟩; obtain ⟨A4, c4, rfl⟩ := Kd.R_slice (Kd.S_R hv4); have HV4 := Aside0.mk hv4; have HB4 := Aside0.mk hb4; clear hv4 hb4) | ((with_reducible refine gate_dst (N := 9) rfl ?_); refine box_event rfl (N := 9) rfl (cs := #[.slice A4 (up2 R).length c4, .slice none 0 0, .int .u8 1]) (t := 80) ?hrun ?_; (case hrun => first | (go_simp; done) | (go_simp; rfl)); intro gx hgx w5 hb5 hB5; have HG5 := Aside0.mk hgx; have HB5 := Aside0.mk hB5; have HK5 := Aside0.mk hb5; clear hgx hb5 hB5) | ((with_reducible refine (run_any HV4.out HG5.out HK5.out HB5.out HB4.out HB4.out.size HM.out hcols hlim hn h0).mono ?_); rintro e w6 ⟨rfl, hE6, hB6⟩; have HE6 := Aside0.mk hE6; have HB6 := Aside0.mk hB6; clear hE6 hB6))
  go_ret
  exact ⟨gx, rfl, HE6.out, HB6.out⟩
theorem eliminate_calls' {n : Nat} (A0 : Option Addr) (c0 : Nat) (R : List (List B)) (cols m : Nat) (w : World) (e : n = (up2 R).length) (hr0 : Kd.C (Kd.slice 5 (Kd.int .u8)) w A0 n (up2 R)) (hc0 : n ≤ c0) (hm : ∀ r ∈ R, r.length = m) (hcols : cols ≤ m) (hlim : m ≤ 1000) (hn : R.length ≤ 64) (h0 : R = [] → cols = 0) :
    Calls Try.prog 62 #[.slice A0 n c0, .int .i64 (cols : Int)] w fun e w' => ∃ gx, e = .returned (.pointer (some ⟨gx, 0, none⟩)) ∧ ElimOut w' w.heap.size gx (elimRun R cols) ∧ Below w.heap.size w w' := by
  subst e
  exact eliminate_calls A0 c0 R cols m w hr0 hc0 hm hcols hlim hn h0
end Go.Proofs.Ytpkghpljgjlmjaa.K
/- Reduce and Rank of package matrix: walks. -/
namespace Go.Proofs.Ytpkghpljgjlmjaa.K
open Go.RowKit Go.Proofs.YtpkghpljgjlmjaaW.PrintWords Go.Proofs.YtpkghpljgjlmjaaW.PrintLast Go.Proofs.YtpkghpljgjlmjaaW.PrintMore Kin
set_option linter.unusedVariables false
set_option linter.unusedSimpArgs false
def bytes2 (l : List (List Int)) : Bool := l.all (fun x => x.all isB)
theorem bytes2_up2 (M : List (List B)) : bytes2 (up2 M) = true := by
  simp only [bytes2, up2, List.all_map, List.all_eq_true]
  intro x _
  show (up x).all isB = true
  rw [List.all_eq_true]
  intro y hy
  obtain ⟨z, _, rfl⟩ := List.mem_map.1 hy
  exact isB_b2i z
theorem exists_bytes2 {l : List (List Int)} (h : bytes2 l = true) : ∃ M : List (List B), l = up2 M := by
  simp only [bytes2, List.all_eq_true] at h
  exact exists_up2 h
def matrix_Reduce.f (l0 : List (List Int)) : Option ((List (List Int)) × List Int × Int) :=
  if validB l0 = true then (if bytes2 l0 = true then some (up2 (elimRun (toB2 l0) (colsN l0)).1, natInts (elimRun (toB2 l0) (colsN l0)).2.1, 0) else none) else some ([], [], 1)
theorem reduce_up (M : List (List B)) (hv : validB M = true) : matrix_Reduce.f (up2 M) = some (up2 (elimRun M (colsN M)).1, natInts (elimRun M (colsN M)).2.1, 0) := by
  unfold matrix_Reduce.f
  rw [if_pos (by rw [validB_up2]; exact hv), if_pos (bytes2_up2 M), toB2_up2, colsN_up2]
def matrix_Rank.f (l0 : List (List Int)) : Option (Int) :=
  if validB l0 = true then (if bytes2 l0 = true then some ((elimRun (toB2 l0) (colsN l0)).2.1.length : Int) else none) else some (-1)
theorem rank_up (M : List (List B)) (hv : validB M = true) : matrix_Rank.f (up2 M) = some ((elimRun M (colsN M)).2.1.length : Int) := by
  unfold matrix_Rank.f
  rw [if_pos (by rw [validB_up2]; exact hv), if_pos (bytes2_up2 M), toB2_up2, colsN_up2]
theorem colsN_of_nil {α : Type} {M : List (List α)} (h : M = []) : colsN M = 0 := by subst h; rfl
theorem validB_lim {α : Type} {M : List (List α)} (h : validB M = true) : M.length ≤ 64 ∧ colsN M ≤ 64 ∧ ∀ r ∈ M, r.length = colsN M := by
  simp only [validB, Bool.and_eq_true, decide_eq_true_eq, List.all_eq_true] at h
  exact ⟨h.1, h.2.1, h.2.2⟩
set_option maxRecDepth 100000 in
set_option maxHeartbeats 2000000 in
theorem reduce_good (A0 : Option Addr) (c0 : Nat) (M : List (List B)) (w : World) (hr0 : Kd.C (Kd.slice 5 (Kd.int .u8)) w A0 (up2 M).length (up2 M)) (hc0 : (up2 M).length ≤ c0) (hv : validB M = true) :
    Calls Try.prog 27 #[.slice A0 (up2 M).length c0] w fun e w' => ∃ v0_ v1_ : Value, e = .returned (.tuple #[v0_, v1_, .int .i64 0]) ∧ Kd.S (Kd.slice 5 (Kd.int .u8)) 34 w' w.heap.size (fun _ => True) v0_ (up2 (elimRun M (colsN M)).1) ∧ Kd.R (Kd.int .i64) 3 w' w.heap.size (fun _ => True) v1_ (natInts (elimRun M (colsN M)).2.1) ∧ Below w.heap.size w w' := by
  have HR0 := Aside0.mk hr0
  have HC0 := Aside0.mk hc0
  have HV := Aside0.mk (show matrix_Valid.f (up2 M) = some true by rw [matrix_Valid.f, validB_up2, hv])
  have HF := Aside0.mk (show matrix_columns.f (up2 M) = some (colsN M : Int) by rw [columns_eq, colsN_up2])
  obtain ⟨l1, l2, l3⟩ := validB_lim hv
  have HM := Aside0.mk l3
  have HL1 := Aside0.mk (show colsN M ≤ 1000 by omega)
  have HL2 := Aside0.mk l1
  have HL3 := Aside0.mk (fun h : M = [] => colsN_of_nil h)
  clear hr0 hc0 hv l1 l2 l3
  go_enter Try.func27, Try.ntmps27
  go_wp2_with (first | (go_at_call 17; (with_reducible refine (matrix_Valid.calls _ _ (up2 M) _ _ HR0.out HC0.out HV.out).mono ?_); rintro e w1 ⟨rfl, hb⟩; have HB := Aside0.mk hb; clear hb) | (go_at_call 56; (with_reducible refine (matrix_columns.calls _ _ (up2 M) _ _ (Kd.C_below HR0.out HB.out) HC0.out HF.out).mono ?_); rintro e w2 ⟨rfl, ⟨n1, rfl⟩⟩; have HB2 := Aside0.mk (pw_below_drewN HB.out n1)) | (go_at_call 62; (with_reducible refine (eliminate_calls _ _ M (colsN M) (colsN M) _ (Kd.C_below HR0.out HB2.out) HC0.out HM.out (Nat.le_refl _) HL1.out HL2.out HL3.out).mono ?_); rintro e w3 ⟨gx, rfl, hE, hB3⟩; obtain ⟨vr, vp, hg, hS, hP⟩ := hE.out; obtain ⟨A4, c4, rfl⟩ := Kd.S_slice hS; obtain ⟨A5, c5, rfl⟩ := Kd.R_slice hP; rw [show (natInts (elimRun M (colsN M)).2.1).length = (elimRun M (colsN M)).2.1.length from List.length_map _] at hg hP; have hx0 : w3.cell? ⟨gx, 0, none⟩ = some (.slice A4 (up2 (elimRun M (colsN M)).1).length c4) := (by rw [blk_cell hg]; rfl); have hx1 : w3.cell? ⟨gx, 1, none⟩ = some (.slice A5 (elimRun M (colsN M)).2.1.length c5) := (by rw [blk_cell hg]; rfl); have hx2 : w3.cell? ⟨gx, 2, none⟩ = some (.int .u8 (b2i (elimRun M (colsN M)).2.2)) := (by rw [blk_cell hg]; rfl); have HS := Aside0.mk hS; have HP := Aside0.mk hP; have HB3 := Aside0.mk hB3; clear hE hg hS hP hB3))
  go_quiet (fail)
  go_wp2
  have hs : w.heap.size ≤ (w1.drewN n1).heap.size := HB2.out.size
  go_ret3
  exact ⟨_, _, rfl, Kd.S_lower (Kd.S_drewN HS.out _) hs, Kd.R_lower (Kd.R_below HP.out (pw_below_drewN (Below.refl _ _) _)) hs, HB2.out.trans ((pw_below_drewN HB3.out _).mono hs)⟩
set_option maxRecDepth 100000 in
set_option maxHeartbeats 2000000 in
theorem reduce_bad (A0 : Option Addr) (c0 : Nat) (M : List (List Int)) (w : World) (hr0 : Kd.C (Kd.slice 5 (Kd.int .u8)) w A0 M.length M) (hc0 : M.length ≤ c0) (hv : validB M = false) :
    Calls Try.prog 27 #[.slice A0 M.length c0] w fun e w' => e = .returned (.tuple #[.slice none 0 0, .slice none 0 0, .int .i64 1]) ∧ Below w.heap.size w w' := by
  have HR0 := Aside0.mk hr0
  have HC0 := Aside0.mk hc0
  have HV := Aside0.mk (show matrix_Valid.f M = some false by rw [matrix_Valid.f, hv])
  clear hr0 hc0 hv
  go_enter Try.func27, Try.ntmps27
  go_wp2_with (first | (go_at_call 17; (with_reducible refine (matrix_Valid.calls _ _ M _ _ HR0.out HC0.out HV.out).mono ?_); rintro e w1 ⟨rfl, hb⟩; have HB := Aside0.mk hb; clear hb))
  go_ret3
  exact ⟨rfl, HB.out⟩
theorem matrix_Reduce.calls (A0 : Option Addr) (c0 : Nat) (l0 : List (List Int)) (r1 : List (List Int)) (r2 : List Int) (r3 : Int) (w : World) (hr0 : Kd.C (Kd.slice 5 (Kd.int .u8)) w A0 l0.length l0) (hc0 : l0.length ≤ c0) (h : matrix_Reduce.f l0 = some (r1, r2, r3)) :
    Calls Try.prog 27 #[.slice A0 l0.length c0] w fun e w' => ∃ v0_ v1_ : Value, e = .returned (.tuple #[v0_, v1_, .int .i64 r3]) ∧ Kd.S (Kd.slice 5 (Kd.int .u8)) 34 w' w.heap.size (fun _ => True) v0_ r1 ∧ Kd.R (Kd.int .i64) 3 w' w.heap.size (fun _ => True) v1_ r2 ∧ Below w.heap.size w w' := by
  cases hv : validB l0 with
  | true =>
    unfold matrix_Reduce.f at h
    rw [if_pos hv] at h
    split at h
    · rename_i hb
      obtain ⟨M, rfl⟩ := exists_bytes2 hb
      rw [toB2_up2, colsN_up2] at h
      simp only [Option.some.injEq, Prod.mk.injEq] at h
      obtain ⟨rfl, rfl, rfl⟩ := h
      exact reduce_good A0 c0 M w hr0 hc0 (by rw [← validB_up2]; exact hv)
    · cases h
  | false =>
    unfold matrix_Reduce.f at h
    rw [if_neg (by rw [hv]; simp)] at h
    simp only [Option.some.injEq, Prod.mk.injEq] at h
    obtain ⟨rfl, rfl, rfl⟩ := h
    refine (reduce_bad A0 c0 l0 w hr0 hc0 hv).mono ?_
    rintro e w' ⟨rfl, hb⟩
    exact ⟨_, _, rfl, Kd.S_nil _ _ _ _ _, Kd.R_nil _ _ _ _ _, hb⟩
set_option maxRecDepth 100000 in
set_option maxHeartbeats 2000000 in
theorem rank_good (A0 : Option Addr) (c0 : Nat) (M : List (List B)) (w : World) (hr0 : Kd.C (Kd.slice 5 (Kd.int .u8)) w A0 (up2 M).length (up2 M)) (hc0 : (up2 M).length ≤ c0) (hv : validB M = true) :
    Calls Try.prog 28 #[.slice A0 (up2 M).length c0] w fun e w' => e = .returned (.int .i64 ((elimRun M (colsN M)).2.1.length : Int)) ∧ Below w.heap.size w w' := by
  have HR0 := Aside0.mk hr0
  have HC0 := Aside0.mk hc0
  have HV := Aside0.mk (show matrix_Valid.f (up2 M) = some true by rw [matrix_Valid.f, validB_up2, hv])
  have HF := Aside0.mk (show matrix_columns.f (up2 M) = some (colsN M : Int) by rw [columns_eq, colsN_up2])
  obtain ⟨l1, l2, l3⟩ := validB_lim hv
  have HM := Aside0.mk l3
  have HL1 := Aside0.mk (show colsN M ≤ 1000 by omega)
  have HL2 := Aside0.mk l1
  have HL3 := Aside0.mk (fun h : M = [] => colsN_of_nil h)
  clear hr0 hc0 hv l1 l2 l3
  go_enter Try.func28, Try.ntmps28
  go_wp2_with (first | (go_at_call 17; (with_reducible refine (matrix_Valid.calls _ _ (up2 M) _ _ HR0.out HC0.out HV.out).mono ?_); rintro e w1 ⟨rfl, hb⟩; have HB := Aside0.mk hb; clear hb) | (go_at_call 56; (with_reducible refine (matrix_columns.calls _ _ (up2 M) _ _ (Kd.C_below HR0.out HB.out) HC0.out HF.out).mono ?_); rintro e w2 ⟨rfl, ⟨n1, rfl⟩⟩; have HB2 := Aside0.mk (pw_below_drewN HB.out n1)) | (go_at_call 62; (with_reducible refine (eliminate_calls _ _ M (colsN M) (colsN M) _ (Kd.C_below HR0.out HB2.out) HC0.out HM.out (Nat.le_refl _) HL1.out HL2.out HL3.out).mono ?_); rintro e w3 ⟨gx, rfl, hE, hB3⟩; obtain ⟨vr, vp, hg, hS, hP⟩ := hE.out; obtain ⟨A4, c4, rfl⟩ := Kd.S_slice hS; obtain ⟨A5, c5, rfl⟩ := Kd.R_slice hP; rw [show (natInts (elimRun M (colsN M)).2.1).length = (elimRun M (colsN M)).2.1.length from List.length_map _] at hg hP; have hx0 : w3.cell? ⟨gx, 0, none⟩ = some (.slice A4 (up2 (elimRun M (colsN M)).1).length c4) := (by rw [blk_cell hg]; rfl); have hx1 : w3.cell? ⟨gx, 1, none⟩ = some (.slice A5 (elimRun M (colsN M)).2.1.length c5) := (by rw [blk_cell hg]; rfl); have hx2 : w3.cell? ⟨gx, 2, none⟩ = some (.int .u8 (b2i (elimRun M (colsN M)).2.2)) := (by rw [blk_cell hg]; rfl); have HS := Aside0.mk hS; have HP := Aside0.mk hP; have HB3 := Aside0.mk hB3; clear hE hg hS hP hB3))
  have hs : w.heap.size ≤ (w1.drewN n1).heap.size := HB2.out.size
  go_ret
  exact ⟨rfl, HB2.out.trans (HB3.out.mono hs)⟩
set_option maxRecDepth 100000 in
set_option maxHeartbeats 2000000 in
theorem rank_bad (A0 : Option Addr) (c0 : Nat) (M : List (List Int)) (w : World) (hr0 : Kd.C (Kd.slice 5 (Kd.int .u8)) w A0 M.length M) (hc0 : M.length ≤ c0) (hv : validB M = false) :
    Calls Try.prog 28 #[.slice A0 M.length c0] w fun e w' => e = .returned (.int .i64 (-1)) ∧ Below w.heap.size w w' := by
  have HR0 := Aside0.mk hr0
  have HC0 := Aside0.mk hc0
  have HV := Aside0.mk (show matrix_Valid.f M = some false by rw [matrix_Valid.f, hv])
  clear hr0 hc0 hv
  go_enter Try.func28, Try.ntmps28
  go_wp2_with (first | (go_at_call 17; (with_reducible refine (matrix_Valid.calls _ _ M _ _ HR0.out HC0.out HV.out).mono ?_); rintro e w1 ⟨rfl, hb⟩; have HB := Aside0.mk hb; clear hb))
  go_ret
  exact ⟨rfl, HB.out⟩
theorem matrix_Rank.calls (A0 : Option Addr) (c0 : Nat) (l0 : List (List Int)) (r : Int) (w : World) (hr0 : Kd.C (Kd.slice 5 (Kd.int .u8)) w A0 l0.length l0) (hc0 : l0.length ≤ c0) (h : matrix_Rank.f l0 = some r) :
    Calls Try.prog 28 #[.slice A0 l0.length c0] w fun e w' => e = .returned (.int .i64 r) ∧ Below w.heap.size w w' := by
  cases hv : validB l0 with
  | true =>
    unfold matrix_Rank.f at h
    rw [if_pos hv] at h
    split at h
    · rename_i hb
      obtain ⟨M, rfl⟩ := exists_bytes2 hb
      rw [toB2_up2, colsN_up2] at h
      obtain rfl := Option.some.inj h
      exact rank_good A0 c0 M w hr0 hc0 (by rw [← validB_up2]; exact hv)
    · cases h
  | false =>
    unfold matrix_Rank.f at h
    rw [if_neg (by rw [hv]; simp)] at h
    obtain rfl := Option.some.inj h
    exact rank_bad A0 c0 l0 w hr0 hc0 hv
end Go.Proofs.Ytpkghpljgjlmjaa.K
