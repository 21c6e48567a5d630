/- Walks and plain facts behind the laws of package matrix. No conditions. -/
import Derived.Test.YtpkghpljgjlmjaaB1
import Derived.Outline
import Derived.Test.YtpkghpljgjlmjaaProg
import Derived.Below
import Derived.Deep.Draws
import Derived.Deep.AppendLies
import Derived.Maps.AppendAt
import Derived.OwnWalk
import Derived.Laws.BytesArg
import Derived.Laws.MakeOwn
import Derived.Laws.OwnMore
import Derived.Deep.OwnRows
import Derived.Tactics
import Derived.Lib.ConvBytes
import Derived.Laws.Slices
import Derived.WalkKit
import Derived.KernelRfl
import Derived.RowKit3
import Derived.Deep.LoopGhost
import Derived.Deep.QuietTactic
import Derived.BigQuiet
import Derived.WideLaws
import Derived.Deep.DeepCutAuto
import Derived.Deep.CutBlock
import Derived.Deep.RegionHeld3
import Derived.Laws.Rows
import Derived.Lib.AppendStr
import Derived.ArgAppend
import Derived.Laws.IdiomCopy
import Derived.OrdersHeld
import Derived.Laws.BitsLemmas
import Derived.RowKit
import Derived.Test.YtpkghpljgjlmjaaU2
import Derived.Lib.AppendZerosOnto
import Derived.Lib.SliceRun
import Derived.Lib.Walk
import Derived.ProofKit
import Derived.ShutString
import Derived.ChangeOld
import Derived.SizedLaws
import Derived.OpenShut
/- The elimination of package matrix: clear. -/
namespace Go.Proofs.Ytpkghpljgjlmjaa.K
open Go.RowKit Go.Proofs.YtpkghpljgjlmjaaW.PrintWords Go.Proofs.YtpkghpljgjlmjaaW.PrintLast Go.Proofs.YtpkghpljgjlmjaaW.PrintMore Kin
set_option linter.unusedVariables false
set_option linter.unusedSimpArgs false

/-- A row after 'clear': its element in the column becomes 0 by the pivot's row. -/
def clearRow (pr : List B) (col : Nat) (r : List B) : List B := if r.getD col 0 = 0 then r else addS r pr (r.getD col 0)
def clearUpto (R : List (List B)) (row col k : Nat) : List (List B) := R.mapIdx fun i r => if i < k ∧ i ≠ row then clearRow (R.getD row []) col r else r
def clearRows (R : List (List B)) (row col : Nat) : List (List B) := R.mapIdx fun i r => if i ≠ row then clearRow (R.getD row []) col r else r
theorem clearUpto_length (R : List (List B)) (row col k : Nat) : (clearUpto R row col k).length = R.length := by simp [clearUpto]
theorem clearUpto_zero (R : List (List B)) (row col : Nat) : clearUpto R row col 0 = R := by
  unfold clearUpto
  apply List.ext_getElem
  · simp
  · intro i h1 h2
    simp
theorem clearUpto_all (R : List (List B)) (row col : Nat) : clearUpto R row col R.length = clearRows R row col := by
  unfold clearUpto clearRows
  apply List.ext_getElem
  · simp
  · intro i h1 h2
    have : i < R.length := by simpa using h1
    simp [this]
theorem clearUpto_get (R : List (List B)) (row col k i : Nat) (hi : i < R.length) : (clearUpto R row col k).getD i [] = if i < k ∧ i ≠ row then clearRow (R.getD row []) col (R.getD i []) else R.getD i [] := by
  simp [clearUpto, List.getD_eq_getElem?_getD, List.getElem?_mapIdx, List.getElem?_eq_getElem hi]
theorem clearUpto_succ (R : List (List B)) (row col i : Nat) (hi : i < R.length) : clearUpto R row col (i + 1) = (clearUpto R row col i).set i (if i ≠ row then clearRow (R.getD row []) col (R.getD i []) else R.getD i []) := by
  unfold clearUpto
  apply List.ext_getElem
  · simp
  · intro j h1 h2
    have hj : j < R.length := by simpa using h1
    rw [List.getElem_mapIdx, List.getElem_set]
    by_cases hij : i = j
    · subst hij
      simp [List.getD_eq_getElem?_getD, List.getElem?_eq_getElem hi]
    · rw [if_neg hij, List.getElem_mapIdx]
      have : (j < i + 1) ↔ (j < i) := by omega
      simp only [this]
theorem getD_mem' {α : Type} {l : List (List α)} {i : Nat} (h : i < l.length) : l.getD i [] ∈ l := by
  rw [List.getD_eq_getElem?_getD, List.getElem?_eq_getElem h]
  exact List.getElem_mem h
theorem set_getD_self (l : List (List B)) (i : Nat) : l.set i (l.getD i []) = l := by
  apply List.ext_getElem
  · simp
  · intro j h1 h2
    rw [List.getElem_set]
    split
    · rename_i h
      subst h
      simp [List.getD_eq_getElem?_getD, List.getElem?_eq_getElem h2]
    · rfl
def f104.T4 : Bool × List (List Nat × List Nat) := (true, [([], []), ([0], [0]), ([1], [1]), ([2], [2]), ([], []), ([], []), ([5], [5]), ([6], [6]), ([7], [7]), ([], []), ([8, 9], [8, 9]), ([10], [10]), ([], []), ([12], [12]), ([13], [13]), ([14], [14]), ([], []), ([15, 16], [15, 16]), ([17], [17]), ([], []), ([19], [19]), ([20], [20]), ([21], [21]), ([], []), ([22, 23], [22, 23]), ([24], [24]), ([], []), ([25, 26], [25, 26]), ([27], [27]), ([11, 18, 28], [11, 18, 28]), ([29], [29]), ([30], [30]), ([30], [30]), ([3, 4, 0, 1, 2, 3, 4, 5, 6, 7, 8, 9, 10, 11, 12, 13, 14, 15, 16, 17, 18, 19, 20, 21, 22, 23, 24, 25, 26, 27, 28, 29, 30, 31], [3, 4]), ([33, 31, 29, 0, 1, 2, 3, 4, 5, 6, 7, 8, 9, 10, 11, 12, 13, 14, 15, 16, 17, 18, 19, 20, 21, 22, 23, 24, 25, 26, 27, 28, 29, 30, 31], [31, 33])])
def f104.B4 : List Nat := [0, 1, 3, 7, 0, 0, 32, 96, 224, 0, 992, 2016, 0, 4096, 12288, 28672, 0, 126976, 258048, 0, 524288, 1572864, 3670016, 0, 16252928, 33030144, 0, 133693440, 267911168, 536870880, 1073741792, 2147483616, 2147483616, 4294967295, 12884901887]
theorem f104.tab4 : rtab .any (opsOf Try.f104 4) = f104.T4 := by kernel_rfl
theorem f104.bits4 : waitsOk f104.T4.2 f104.B4 = true := by kernel_rfl
set_option maxRecDepth 100000 in
set_option maxHeartbeats 8000000 in
theorem eclear_calls {w : World} {base gx gr c m : Nat} {X : Nat → Prop} {R : List (List B)} {piv : List Int} {d : B} (h : Elim w base gx gr c X R piv d) (row col : Nat) (hrow : row < R.length) (hm : ∀ r ∈ R, r.length = m) (hcol : col < m) (hlim : m ≤ 140737488351232) (hn : R.length ≤ 9223372036854775807) :
    Calls Try.prog 104 #[.pointer (some ⟨gx, 0, none⟩), .int .i64 (row : Int), .int .i64 (col : Int)] w fun e w' => e = .returned (.tuple #[]) ∧ Elim w' base gx gr c X (clearRows R row col) piv d ∧ FrameE w w' gx gr := by
  have hx0 := h.cells.1
  have HEE := Aside0.mk h
  have HM := Aside0.mk hm
  have HLIM := Aside0.mk hlim
  clear h hm hlim
  go_enter Try.func104, Try.ntmps104
  go_wp2
  clear hx0
  go_loopw [12] (fun v12 wr => ∃ i : Nat, i ≤ R.length ∧ v12 = .int .i64 (i : Int) ∧ Aside0 (Elim wr base gx gr c X (clearUpto R row col i) piv d ∧ FrameE w wr gx gr)) (fun v12 _ => R.length - (intOf v12).toNat)
  case atStart => exact ⟨0, by omega, rfl, ⟨by rw [clearUpto_zero]; exact HEE.out, FrameE.refl _ _ _⟩⟩
  case round =>
    obtain ⟨i, hi, rfl, HA⟩ := hrel
    by_cases hlt : i < R.length
    · by_cases hir : i = row
      · have hne : ((i : Int) != (row : Int)) = false := by rw [bne_eq_false_iff_eq]; omega
        have hU : clearUpto R row col (i + 1) = clearUpto R row col i := by
          rw [clearUpto_succ R row col i hlt, if_neg (by simpa using hir)]
          have := set_getD_self (clearUpto R row col i) i
          rw [clearUpto_get R row col i i hlt, if_neg (by omega)] at this
          exact this
        have HU := Aside0.mk hU
        clear hU hir
        go_wp2
        go_roundw
        case rel => exact ⟨i + 1, by omega, by go_num, ⟨by rw [HU.out]; exact HA.out.1, HA.out.2⟩⟩
        case measure => simp [intOf]; omega
      · have hne : ((i : Int) != (row : Int)) = true := by rw [bne_iff_ne]; omega
        obtain ⟨hx0, _, _⟩ := HA.out.1.cells
        obtain ⟨Ai, co, hxi, hli, hCi, hfi⟩ := HA.out.1.read i (by rw [clearUpto_length]; exact hlt)
        rw [clearUpto_get R row col i i hlt, if_neg (by omega)] at hxi hli hCi
        obtain ⟨Ap, cp, hxp, hlp, hCp, _⟩ := HA.out.1.read row (by rw [clearUpto_length]; exact hrow)
        rw [clearUpto_get R row col i row hrow, if_neg (by omega)] at hxp hlp hCp
        have hril := HM.out _ (getD_mem' (l := R) (i := i) hlt)
        have hprl := HM.out _ (getD_mem' (l := R) (i := row) hrow)
        have hU := clearUpto_succ R row col i hlt
        rw [if_pos (by simpa using hir), clearRow] at hU
        generalize hri : R.getD i [] = ri at hxi hli hCi hril hU
        generalize hpr : R.getD row [] = pr at hxp hlp hCp hprl hU
        obtain ⟨ad, e, hxb⟩ := Kd.at_int hCi (col : Int) (by omega) (by rw [up_length]; omega)
        subst e
        rw [Int.toNat_natCast, getD_up] at hxb
        generalize hx : ri.getD col 0 = x at hxb hU
        have HU := Aside0.mk hU
        have HRI := Aside0.mk hri
        have HRIL := Aside0.mk hril
        have HCI := Aside0.mk hCi
        have HCP := Aside0.mk hCp
        have HLI := Aside0.mk hli
        have HLP := Aside0.mk hlp
        have HE := Aside0.mk HA.out.1
        have HF := Aside0.mk HA.out.2
        have i0 : (0 : Int) ≤ (i : Int) := by omega
        have i1 : (i : Int) < ((clearUpto R row col i).length : Int) := by rw [clearUpto_length]; omega
        have r0 : (0 : Int) ≤ (row : Int) := by omega
        have r1 : (row : Int) < ((clearUpto R row col i).length : Int) := by rw [clearUpto_length]; omega
        have c0' : (0 : Int) ≤ (col : Int) := by omega
        have c1' : (col : Int) < ((up ri).length : Int) := by rw [up_length]; omega
        have HMA := Aside0.mk (muladd_up ri pr x (by omega) (by have := HLIM.out; omega) (k := ri.length + 1) (by omega))
        clear hU hri hpr hx hli hCi hlp hCp hril hprl hir
        by_cases hx0' : x = 0
        · have hz : (b2i x != 0) = false := by rw [bne_eq_false_iff_eq, hx0']; rfl
          have HUU := Aside0.mk (show clearUpto R row col (i + 1) = clearUpto R row col i by
            rw [HU.out, if_pos hx0', ← HRI.out]
            have := set_getD_self (clearUpto R row col i) i
            rw [clearUpto_get R row col i i hlt, if_neg (by omega)] at this
            exact this)
          clear hx0'
          go_wp2
          go_roundw
          case rel => exact ⟨i + 1, by omega, by go_num, ⟨by rw [HUU.out]; exact HE.out, HF.out⟩⟩
          case measure => simp [intOf]; omega
        · have hz : (b2i x != 0) = true := by rw [bne_iff_ne]; exact fun e => hx0' (b2i_eq_zero.1 e)
          have HUU := Aside0.mk (show clearUpto R row col (i + 1) = (clearUpto R row col i).set i (addS ri pr x) by rw [HU.out, if_neg hx0'])
          clear hx0'
          go_wp2
          refine start_ (n := 35) (S := fun w' => w'.cell? ⟨gx, 0, none⟩ = some (.slice (some ⟨gr, 0, none⟩) (clearUpto R row col i).length c) ∧ w'.cell? ⟨gr, i, none⟩ = some (.slice (some ad) (up ri).length co) ∧ w'.cell? ⟨gr, row, none⟩ = some (.slice Ap (up pr).length cp) ∧ w'.cell? (ad.add col) = some (.int .u8 (b2i x))) (ds := [34]) #[false, false, false, false, false, false, false, false, false, false, false, false, false, false, false, false, false, false, false, false, false, false, false, false, false, false, false, false, false, false, false, false, false, false, false] (by kernel_rfl) rfl rfl ⟨hx0, hxi, hxp, hxb⟩ (fun hHeld => ?_)
          refine with_tabW f104.tab4 f104.bits4 (fun HT_ HW_ => ?_)
          have hEW := HE.out.drew
          have hFW := HF.out.drew
          have hCi := Kd.C_drew HCI.out
          have hCp := Kd.C_drew HCP.out
          have hb1 := World.block_lt_of_cell? wr _ hxb
          replace hfi : wr.drew.frozen? ⟨gr, i, none⟩ = false := hfi
          replace hb1 : (ad.add col).block < wr.drew.heap.size := hb1
          clear hx0 hxi hxp hxb
          have HEW := Aside0.mk hEW
          have HFW := Aside0.mk hFW
          have HCi := Aside0.mk hCi
          have HCp := Aside0.mk hCp
          clear hEW hFW hCi hCp
          generalize wr.drew = W at HEW HFW HCi HCp hfi hb1 hHeld ⊢
          refine pure_ (i := 0) (N := some 32) (v := ?_) (a' := ?_) #[true, false, false, false, false, false, false, false, false, false, false, false, false, false, false, false, false, false, false, false, false, false, false, false, false, false, false, false, false, false, false, false, false, false, false] rfl rfl (any_of HT_.out (by kernel_rfl)) (fun _ _ _ h => h) (Or.inl ⟨by rfl, ?_⟩) ?_ ?_
          rotate_left
          · intro w'
            go_simp
            with_reducible rfl
          rotate_left
          · simp only [Act.put, List.setIfInBounds_toArray, List.set_cons_zero, List.set_cons_succ, i64_w, i32_w]
            rfl
          refine pure_ (i := 1) (N := some 33) (v := ?_) (a' := ?_) #[true, true, false, false, false, false, false, false, false, false, false, false, false, false, false, false, false, false, false, false, false, false, false, false, false, false, false, false, false, false, false, false, false, false, false] rfl rfl (any_of HT_.out (by kernel_rfl)) (fun _ _ _ h => h) (Or.inl ⟨by rfl, ?_⟩) ?_ ?_
          rotate_left
          · intro w'
            go_simp
            with_reducible rfl
          rotate_left
          · simp only [Act.put, List.setIfInBounds_toArray, List.set_cons_zero, List.set_cons_succ, i64_w, i32_w]
            rfl
          refine pure_ (i := 2) (N := some 34) (v := ?_) (a' := ?_) #[true, true, true, false, false, false, false, false, false, false, false, false, false, false, false, false, false, false, false, false, false, false, false, false, false, false, false, false, false, false, false, false, false, false, false] rfl rfl (any_of HT_.out (by kernel_rfl)) (fun _ _ _ h => h) (Or.inl ⟨by rfl, ?_⟩) ?_ ?_
          rotate_left
          · intro w'
            go_simp
            with_reducible rfl
          rotate_left
          · simp only [Act.put, List.setIfInBounds_toArray, List.set_cons_zero, List.set_cons_succ, i64_w, i32_w]
            rfl
          refine pure_ (i := 4) (N := some 36) (v := ?_) (a' := ?_) #[true, true, true, false, true, false, false, false, false, false, false, false, false, false, false, false, false, false, false, false, false, false, false, false, false, false, false, false, false, false, false, false, false, false, false] rfl rfl (any_of HT_.out (by kernel_rfl)) (fun _ _ _ h => h) (Or.inl ⟨by rfl, ?_⟩) ?_ ?_
          rotate_left
          · intro w'
            go_simp
            with_reducible rfl
          rotate_left
          · simp only [Act.put, List.setIfInBounds_toArray, List.set_cons_zero, List.set_cons_succ, i64_w, i32_w]
            rfl
          refine pure_ (i := 5) (N := some 37) (v := ?_) (a' := ?_) #[true, true, true, false, true, true, false, false, false, false, false, false, false, false, false, false, false, false, false, false, false, false, false, false, false, false, false, false, false, false, false, false, false, false, false] rfl rfl (any_of HT_.out (by kernel_rfl)) (fun _ _ _ h => h) (Or.inl ⟨by rfl, ?_⟩) ?_ ?_
          rotate_left
          · intro w'
            go_simp
            with_reducible rfl
          rotate_left
          · simp only [Act.put, List.setIfInBounds_toArray, List.set_cons_zero, List.set_cons_succ, i64_w, i32_w]
            rfl
          refine pure_ (i := 6) (N := some 38) (v := ?_) (a' := ?_) #[true, true, true, false, true, true, true, false, false, false, false, false, false, false, false, false, false, false, false, false, false, false, false, false, false, false, false, false, false, false, false, false, false, false, false] rfl rfl (any_of HT_.out (by kernel_rfl)) (fun _ _ _ h => h) (Or.inl ⟨by rfl, ?_⟩) ?_ ?_
          rotate_left
          · intro w'
            go_simp
            with_reducible rfl
          rotate_left
          · simp only [Act.put, List.setIfInBounds_toArray, List.set_cons_zero, List.set_cons_succ, i64_w, i32_w]
            rfl
          refine pure_ (i := 7) (N := some 39) (v := ?_) (a' := ?_) #[true, true, true, false, true, true, true, true, false, false, false, false, false, false, false, false, false, false, false, false, false, false, false, false, false, false, false, false, false, false, false, false, false, false, false] rfl rfl (any_of HT_.out (by kernel_rfl)) (fun _ _ _ h => h) (Or.inl ⟨by rfl, ?_⟩) ?_ ?_
          rotate_left
          · intro w'
            go_simp
            with_reducible rfl
          rotate_left
          · simp only [Act.put, List.setIfInBounds_toArray, List.set_cons_zero, List.set_cons_succ, i64_w, i32_w]
            rfl
          refine pure_ (i := 9) (N := some 41) (v := ?_) (a' := ?_) #[true, true, true, false, true, true, true, true, false, true, false, false, false, false, false, false, false, false, false, false, false, false, false, false, false, false, false, false, false, false, false, false, false, false, false] rfl rfl (any_of HT_.out (by kernel_rfl)) (fun _ _ _ h => h) (Or.inl ⟨by rfl, ?_⟩) ?_ ?_
          rotate_left
          · intro w'
            go_simp
            with_reducible rfl
          rotate_left
          · simp only [Act.put, List.setIfInBounds_toArray, List.set_cons_zero, List.set_cons_succ, i64_w, i32_w]
            rfl
          refine pure_ (i := 12) (N := some 44) (v := ?_) (a' := ?_) #[true, true, true, false, true, true, true, true, false, true, false, false, true, false, false, false, false, false, false, false, false, false, false, false, false, false, false, false, false, false, false, false, false, false, false] rfl rfl (any_of HT_.out (by kernel_rfl)) (fun _ _ _ h => h) (Or.inl ⟨by rfl, ?_⟩) ?_ ?_
          rotate_left
          · intro w'
            go_simp
            with_reducible rfl
          rotate_left
          · simp only [Act.put, List.setIfInBounds_toArray, List.set_cons_zero, List.set_cons_succ, i64_w, i32_w]
            rfl
          refine pure_ (i := 13) (N := some 45) (v := ?_) (a' := ?_) #[true, true, true, false, true, true, true, true, false, true, false, false, true, true, false, false, false, false, false, false, false, false, false, false, false, false, false, false, false, false, false, false, false, false, false] rfl rfl (any_of HT_.out (by kernel_rfl)) (fun _ _ _ h => h) (Or.inl ⟨by rfl, ?_⟩) ?_ ?_
          rotate_left
          · intro w'
            go_simp
            with_reducible rfl
          rotate_left
          · simp only [Act.put, List.setIfInBounds_toArray, List.set_cons_zero, List.set_cons_succ, i64_w, i32_w]
            rfl
          refine pure_ (i := 14) (N := some 46) (v := ?_) (a' := ?_) #[true, true, true, false, true, true, true, true, false, true, false, false, true, true, true, false, false, false, false, false, false, false, false, false, false, false, false, false, false, false, false, false, false, false, false] rfl rfl (any_of HT_.out (by kernel_rfl)) (fun _ _ _ h => h) (Or.inl ⟨by rfl, ?_⟩) ?_ ?_
          rotate_left
          · intro w'
            go_simp
            with_reducible rfl
          rotate_left
          · simp only [Act.put, List.setIfInBounds_toArray, List.set_cons_zero, List.set_cons_succ, i64_w, i32_w]
            rfl
          refine pure_ (i := 16) (N := some 48) (v := ?_) (a' := ?_) #[true, true, true, false, true, true, true, true, false, true, false, false, true, true, true, false, true, false, false, false, false, false, false, false, false, false, false, false, false, false, false, false, false, false, false] rfl rfl (any_of HT_.out (by kernel_rfl)) (fun _ _ _ h => h) (Or.inl ⟨by rfl, ?_⟩) ?_ ?_
          rotate_left
          · intro w'
            go_simp
            with_reducible rfl
          rotate_left
          · simp only [Act.put, List.setIfInBounds_toArray, List.set_cons_zero, List.set_cons_succ, i64_w, i32_w]
            rfl
          refine pure_ (i := 19) (N := some 51) (v := ?_) (a' := ?_) #[true, true, true, false, true, true, true, true, false, true, false, false, true, true, true, false, true, false, false, true, false, false, false, false, false, false, false, false, false, false, false, false, false, false, false] rfl rfl (any_of HT_.out (by kernel_rfl)) (fun _ _ _ h => h) (Or.inl ⟨by rfl, ?_⟩) ?_ ?_
          rotate_left
          · intro w'
            go_simp
            with_reducible rfl
          rotate_left
          · simp only [Act.put, List.setIfInBounds_toArray, List.set_cons_zero, List.set_cons_succ, i64_w, i32_w]
            rfl
          refine pure_ (i := 20) (N := some 52) (v := ?_) (a' := ?_) #[true, true, true, false, true, true, true, true, false, true, false, false, true, true, true, false, true, false, false, true, true, false, false, false, false, false, false, false, false, false, false, false, false, false, false] rfl rfl (any_of HT_.out (by kernel_rfl)) (fun _ _ _ h => h) (Or.inl ⟨by rfl, ?_⟩) ?_ ?_
          rotate_left
          · intro w'
            go_simp
            with_reducible rfl
          rotate_left
          · simp only [Act.put, List.setIfInBounds_toArray, List.set_cons_zero, List.set_cons_succ, i64_w, i32_w]
            rfl
          refine pure_ (i := 21) (N := some 53) (v := ?_) (a' := ?_) #[true, true, true, false, true, true, true, true, false, true, false, false, true, true, true, false, true, false, false, true, true, true, false, false, false, false, false, false, false, false, false, false, false, false, false] rfl rfl (any_of HT_.out (by kernel_rfl)) (fun _ _ _ h => h) (Or.inl ⟨by rfl, ?_⟩) ?_ ?_
          rotate_left
          · intro w'
            go_simp
            with_reducible rfl
          rotate_left
          · simp only [Act.put, List.setIfInBounds_toArray, List.set_cons_zero, List.set_cons_succ, i64_w, i32_w]
            rfl
          refine pure_ (i := 23) (N := some 55) (v := ?_) (a' := ?_) #[true, true, true, false, true, true, true, true, false, true, false, false, true, true, true, false, true, false, false, true, true, true, false, true, false, false, false, false, false, false, false, false, false, false, false] rfl rfl (any_of HT_.out (by kernel_rfl)) (fun _ _ _ h => h) (Or.inl ⟨by rfl, ?_⟩) ?_ ?_
          rotate_left
          · intro w'
            go_simp
            with_reducible rfl
          rotate_left
          · simp only [Act.put, List.setIfInBounds_toArray, List.set_cons_zero, List.set_cons_succ, i64_w, i32_w]
            rfl
          refine pure_ (i := 26) (N := some 58) (v := ?_) (a' := ?_) #[true, true, true, false, true, true, true, true, false, true, false, false, true, true, true, false, true, false, false, true, true, true, false, true, false, false, true, false, false, false, false, false, false, false, false] rfl rfl (any_of HT_.out (by kernel_rfl)) (fun _ _ _ h => h) (Or.inl ⟨by rfl, ?_⟩) ?_ ?_
          rotate_left
          · intro w'
            go_simp
            with_reducible rfl
          rotate_left
          · simp only [Act.put, List.setIfInBounds_toArray, List.set_cons_zero, List.set_cons_succ, i64_w, i32_w]
            rfl
          refine take_ (i := 3) (N := some 35) (v := ?_) (a' := ?_) #[true, true, true, true, true, true, true, true, false, true, false, false, true, true, true, false, true, false, false, true, true, true, false, true, false, false, true, false, false, false, false, false, false, false, false] rfl rfl (take_ofW HT_.out HW_.out (by kernel_rfl)) (fun _ _ _ h => h) (Or.inl ⟨by rfl, ?_⟩) hHeld ?_ ?_
          rotate_left
          · rintro w' ⟨s0, s1, s2, s3⟩
            go_simp
            with_reducible rfl
          rotate_left
          · simp only [Act.put, List.setIfInBounds_toArray, List.set_cons_zero, List.set_cons_succ, i64_w, i32_w]
            rfl
          refine take_ (i := 8) (N := some 40) (v := ?_) (a' := ?_) #[true, true, true, true, true, true, true, true, true, true, false, false, true, true, true, false, true, false, false, true, true, true, false, true, false, false, true, false, false, false, false, false, false, false, false] rfl rfl (take_ofW HT_.out HW_.out (by kernel_rfl)) (fun _ _ _ h => h) (Or.inl ⟨by rfl, ?_⟩) hHeld ?_ ?_
          rotate_left
          · rintro w' ⟨s0, s1, s2, s3⟩
            go_simp
            with_reducible rfl
          rotate_left
          · simp only [Act.put, List.setIfInBounds_toArray, List.set_cons_zero, List.set_cons_succ, i64_w, i32_w]
            rfl
          refine pure_ (i := 10) (N := some 42) (v := ?_) (a' := ?_) #[true, true, true, true, true, true, true, true, true, true, true, false, true, true, true, false, true, false, false, true, true, true, false, true, false, false, true, false, false, false, false, false, false, false, false] rfl rfl (any_of HT_.out (by kernel_rfl)) (fun _ _ _ h => h) (Or.inl ⟨by rfl, ?_⟩) ?_ ?_
          rotate_left
          · intro w'
            go_simp
            with_reducible rfl
          rotate_left
          · simp only [Act.put, List.setIfInBounds_toArray, List.set_cons_zero, List.set_cons_succ, i64_w, i32_w]
            rfl
          refine take_ (i := 11) (N := some 43) (v := ?_) (a' := ?_) #[true, true, true, true, true, true, true, true, true, true, true, true, true, true, true, false, true, false, false, true, true, true, false, true, false, false, true, false, false, false, false, false, false, false, false] rfl rfl (take_ofW HT_.out HW_.out (by kernel_rfl)) (fun _ _ _ h => h) (Or.inl ⟨by rfl, ?_⟩) hHeld ?_ ?_
          rotate_left
          · rintro w' ⟨s0, s1, s2, s3⟩
            go_simp
            with_reducible rfl
          rotate_left
          · simp only [Act.put, List.setIfInBounds_toArray, List.set_cons_zero, List.set_cons_succ, i64_w, i32_w]
            rfl
          refine take_ (i := 15) (N := some 47) (v := ?_) (a' := ?_) #[true, true, true, true, true, true, true, true, true, true, true, true, true, true, true, true, true, false, false, true, true, true, false, true, false, false, true, false, false, false, false, false, false, false, false] rfl rfl (take_ofW HT_.out HW_.out (by kernel_rfl)) (fun _ _ _ h => h) (Or.inl ⟨by rfl, ?_⟩) hHeld ?_ ?_
          rotate_left
          · rintro w' ⟨s0, s1, s2, s3⟩
            go_simp
            with_reducible rfl
          rotate_left
          · simp only [Act.put, List.setIfInBounds_toArray, List.set_cons_zero, List.set_cons_succ, i64_w, i32_w]
            rfl
          refine pure_ (i := 17) (N := some 49) (v := ?_) (a' := ?_) #[true, true, true, true, true, true, true, true, true, true, true, true, true, true, true, true, true, true, false, true, true, true, false, true, false, false, true, false, false, false, false, false, false, false, false] rfl rfl (any_of HT_.out (by kernel_rfl)) (fun _ _ _ h => h) (Or.inl ⟨by rfl, ?_⟩) ?_ ?_
          rotate_left
          · intro w'
            go_simp
            with_reducible rfl
          rotate_left
          · simp only [Act.put, List.setIfInBounds_toArray, List.set_cons_zero, List.set_cons_succ, i64_w, i32_w]
            rfl
          refine take_ (i := 18) (N := some 50) (v := ?_) (a' := ?_) #[true, true, true, true, true, true, true, true, true, true, true, true, true, true, true, true, true, true, true, true, true, true, false, true, false, false, true, false, false, false, false, false, false, false, false] rfl rfl (take_ofW HT_.out HW_.out (by kernel_rfl)) (fun _ _ _ h => h) (Or.inl ⟨by rfl, ?_⟩) hHeld ?_ ?_
          rotate_left
          · rintro w' ⟨s0, s1, s2, s3⟩
            go_simp
            with_reducible rfl
          rotate_left
          · simp only [Act.put, List.setIfInBounds_toArray, List.set_cons_zero, List.set_cons_succ, i64_w, i32_w]
            rfl
          refine take_ (i := 22) (N := some 54) (v := ?_) (a' := ?_) #[true, true, true, true, true, true, true, true, true, true, true, true, true, true, true, true, true, true, true, true, true, true, true, true, false, false, true, false, false, false, false, false, false, false, false] rfl rfl (take_ofW HT_.out HW_.out (by kernel_rfl)) (fun _ _ _ h => h) (Or.inl ⟨by rfl, ?_⟩) hHeld ?_ ?_
          rotate_left
          · rintro w' ⟨s0, s1, s2, s3⟩
            go_simp
            with_reducible rfl
          rotate_left
          · simp only [Act.put, List.setIfInBounds_toArray, List.set_cons_zero, List.set_cons_succ, i64_w, i32_w]
            rfl
          refine pure_ (i := 24) (N := some 56) (v := ?_) (a' := ?_) #[true, true, true, true, true, true, true, true, true, true, true, true, true, true, true, true, true, true, true, true, true, true, true, true, true, false, true, false, false, false, false, false, false, false, false] rfl rfl (any_of HT_.out (by kernel_rfl)) (fun _ _ _ h => h) (Or.inl ⟨by rfl, ?_⟩) ?_ ?_
          rotate_left
          · intro w'
            go_simp
            with_reducible rfl
          rotate_left
          · simp only [Act.put, List.setIfInBounds_toArray, List.set_cons_zero, List.set_cons_succ, i64_w, i32_w]
            rfl
          refine take_ (i := 25) (N := some 57) (v := ?_) (a' := ?_) #[true, true, true, true, true, true, true, true, true, true, true, true, true, true, true, true, true, true, true, true, true, true, true, true, true, true, true, false, false, false, false, false, false, false, false] rfl rfl (take_ofW HT_.out HW_.out (by kernel_rfl)) (fun _ _ _ h => h) (Or.inl ⟨by rfl, ?_⟩) hHeld ?_ ?_
          rotate_left
          · rintro w' ⟨s0, s1, s2, s3⟩
            go_simp
            with_reducible rfl
          rotate_left
          · simp only [Act.put, List.setIfInBounds_toArray, List.set_cons_zero, List.set_cons_succ, i64_w, i32_w]
            rfl
          refine pure_ (i := 27) (N := some 59) (v := ?_) (a' := ?_) #[true, true, true, true, true, true, true, true, true, true, true, true, true, true, true, true, true, true, true, true, true, true, true, true, true, true, true, true, false, false, false, false, false, false, false] rfl rfl (any_of HT_.out (by kernel_rfl)) (fun _ _ _ h => h) (Or.inl ⟨by rfl, ?_⟩) ?_ ?_
          rotate_left
          · intro w'
            go_simp
            with_reducible rfl
          rotate_left
          · simp only [Act.put, List.setIfInBounds_toArray, List.set_cons_zero, List.set_cons_succ, i64_w, i32_w]
            rfl
          refine take_ (i := 28) (N := some 60) (v := ?_) (a' := ?_) #[true, true, true, true, true, true, true, true, true, true, true, true, true, true, true, true, true, true, true, true, true, true, true, true, true, true, true, true, true, false, false, false, false, false, false] rfl rfl (take_ofW HT_.out HW_.out (by kernel_rfl)) (fun _ _ _ h => h) (Or.inl ⟨by rfl, ?_⟩) hHeld ?_ ?_
          rotate_left
          · rintro w' ⟨s0, s1, s2, s3⟩
            go_simp
            with_reducible rfl
          rotate_left
          · simp only [Act.put, List.setIfInBounds_toArray, List.set_cons_zero, List.set_cons_succ, i64_w, i32_w]
            rfl
          refine one_ (i := 29) (N := some 61) #[true, true, true, true, true, true, true, true, true, true, true, true, true, true, true, true, true, true, true, true, true, true, true, true, true, true, true, true, true, true, false, false, false, false, false] rfl rfl (one_of HT_.out (by kernel_rfl)) (by decide) (fun K hK => ?_)
          refine goes_ Try.func66 (by kernel_rfl) rfl #[.slice (some ad) (up ri).length co, .slice Ap (up pr).length cp, .int .u8 (b2i x)] (by rfl) rfl rfl (by (try simp only [List.map_toArray, List.map_cons, List.map_nil]); first | done | rfl | (simp only [List.length_drop, List.length_take]; rfl)) ?_
          with_reducible refine (gf256_MulAdd.calls (ri.length + 1) _ _ (up ri) _ _ (up pr) _ _ _ _ HCi.out HLI.out HCp.out HLP.out HMA.out).mono ?_
          rintro e w4 ⟨v4, rfl, hv4, hb4⟩
          refine ⟨_, rfl, ?_⟩
          obtain ⟨A4, c4, rfl⟩ := Kd.R_slice hv4
          have HV4 := Aside0.mk hv4
          have HB4 := Aside0.mk hb4
          have hf4 : w4.frozen? ⟨gr, i, none⟩ = false := (hb4.frozen HEW.out.ltr).trans hfi
          refine hK.out _ _ ⟨(hb4.cell HEW.out.lt).trans hHeld.1, (hb4.cell HEW.out.ltr).trans hHeld.2.1, (hb4.cell HEW.out.ltr).trans hHeld.2.2.1, (hb4.cell hb1).trans hHeld.2.2.2⟩ (fun hHeld => ?_)
          clear hv4 hb4
          have hxr4 := hHeld.2.1
          clear hK K
          refine norm_ (a' := ?_) ?_ ?_
          rotate_left
          · show Act.put _ (some 61) _ = _
            simp only [Act.put, List.setIfInBounds_toArray, List.set_cons_zero, List.set_cons_succ, i64_w, i32_w]
            rfl
          refine pure_ (i := 30) (N := some 31) (v := ?_) (a' := ?_) #[true, true, true, true, true, true, true, true, true, true, true, true, true, true, true, true, true, true, true, true, true, true, true, true, true, true, true, true, true, true, true, false, false, false, false] rfl rfl (any_of HT_.out (by kernel_rfl)) (fun _ _ _ h => h) (Or.inl ⟨by rfl, ?_⟩) ?_ ?_
          rotate_left
          · intro w'
            go_simp
            with_reducible rfl
          rotate_left
          · simp only [Act.put, List.setIfInBounds_toArray, List.set_cons_zero, List.set_cons_succ, i64_w, i32_w]
            rfl
          refine pure_ (i := 31) (N := some 62) (v := ?_) (a' := ?_) #[true, true, true, true, true, true, true, true, true, true, true, true, true, true, true, true, true, true, true, true, true, true, true, true, true, true, true, true, true, true, true, true, false, false, false] rfl rfl (any_of HT_.out (by kernel_rfl)) (fun _ _ _ h => h) (Or.inl ⟨by rfl, ?_⟩) ?_ ?_
          rotate_left
          · intro w'
            go_simp
            with_reducible rfl
          rotate_left
          · simp only [Act.put, List.setIfInBounds_toArray, List.set_cons_zero, List.set_cons_succ, i64_w, i32_w]
            rfl
          refine pure_ (i := 32) (N := some 63) (v := ?_) (a' := ?_) #[true, true, true, true, true, true, true, true, true, true, true, true, true, true, true, true, true, true, true, true, true, true, true, true, true, true, true, true, true, true, true, true, true, false, false] rfl rfl (any_of HT_.out (by kernel_rfl)) (fun _ _ _ h => h) (Or.inl ⟨by rfl, ?_⟩) ?_ ?_
          rotate_left
          · intro w'
            go_simp
            with_reducible rfl
          rotate_left
          · simp only [Act.put, List.setIfInBounds_toArray, List.set_cons_zero, List.set_cons_succ, i64_w, i32_w]
            rfl
          refine pure_ (i := 33) (N := some 64) (v := ?_) (a' := ?_) #[true, true, true, true, true, true, true, true, true, true, true, true, true, true, true, true, true, true, true, true, true, true, true, true, true, true, true, true, true, true, true, true, true, true, false] rfl rfl (any_of HT_.out (by kernel_rfl)) (fun _ _ _ h => h) (Or.inl ⟨by rfl, ?_⟩) ?_ ?_
          rotate_left
          · intro w'
            go_simp
            with_reducible rfl
          rotate_left
          · simp only [Act.put, List.setIfInBounds_toArray, List.set_cons_zero, List.set_cons_succ, i64_w, i32_w]
            rfl
          refine last_ (i := 34) (N := none) #[true, true, true, true, true, true, true, true, true, true, true, true, true, true, true, true, true, true, true, true, true, true, true, true, true, true, true, true, true, true, true, true, true, true, true] rfl rfl (one_of HT_.out (by kernel_rfl)) (by decide) (fun K hK => ?_)
          refine skip_ (w1 := ?_) (by rfl) rfl ?_ ?_
          rotate_left
          · go_simp
            rfl
          refine hK.out _ _ ?_
          clear hK K
          refine done_ (done_of HT_.out (by kernel_rfl)) ?_
          have hP := HEW.out.putRow HB4.out HV4.out i (by rw [clearUpto_length]; exact hlt)
          have HP := Aside0.mk hP
          have HFN := Aside0.mk ((HFW.out.trans (FrameE.below HB4.out gx gr)).set (p := ⟨gr, i, none⟩) (.inr rfl) (.slice A4 (up (addS ri pr x)).length c4))
          clear hP
          go_wp2
          go_roundw
          case rel => exact ⟨i + 1, by omega, by go_num, ⟨by rw [HUU.out]; exact HP.out, HFN.out⟩⟩
          case measure => simp [intOf]; omega
    · obtain rfl : i = R.length := by omega
      have hU := HA.out.1
      rw [clearUpto_all] at hU
      have HU := Aside0.mk hU
      clear hU
      go_wp2
      go_end0
      exact ⟨rfl, HU.out, HA.out.2⟩
end Go.Proofs.Ytpkghpljgjlmjaa.K
/- The elimination of package matrix: the closure find of run. -/
namespace Go.Proofs.Ytpkghpljgjlmjaa.K
open Go.RowKit Go.Proofs.YtpkghpljgjlmjaaW.PrintWords Go.Proofs.YtpkghpljgjlmjaaW.PrintLast Go.Proofs.YtpkghpljgjlmjaaW.PrintMore Kin
set_option linter.unusedVariables false
set_option linter.unusedSimpArgs false

/-- The first row from row on with an element other than 0 in the column. -/
def findRow (R : List (List B)) (row col : Nat) : Option Nat := (List.range R.length).find? fun i => decide (row ≤ i) && decide ((R.getD i []).getD col 0 ≠ 0)
def findInt (R : List (List B)) (row col : Nat) : Int := match findRow R row col with | some i => (i : Int) | none => -1
theorem findInt_some {R : List (List B)} {row col i : Nat} (hi : i < R.length) (hr : row ≤ i) (hx : (R.getD i []).getD col 0 ≠ 0) (hb : ∀ j, row ≤ j → j < i → (R.getD j []).getD col 0 = 0) : findInt R row col = i := by
  have : findRow R row col = some i := by
    unfold findRow
    rw [List.find?_range_eq_some]
    refine ⟨by simp [hr, hx, -List.getD_eq_getElem?_getD], by simpa using hi, fun j hj => ?_⟩
    by_cases h : row ≤ j
    · simp [hb j h hj, -List.getD_eq_getElem?_getD]
    · simp [h]
  unfold findInt
  rw [this]
theorem findInt_none {R : List (List B)} {row col : Nat} (hb : ∀ j, row ≤ j → j < R.length → (R.getD j []).getD col 0 = 0) : findInt R row col = -1 := by
  have : findRow R row col = none := by
    unfold findRow
    rw [List.find?_range_eq_none]
    intro j hj
    by_cases h : row ≤ j
    · simp [hb j h hj, -List.getD_eq_getElem?_getD]
    · simp [h]
  unfold findInt
  rw [this]
set_option maxRecDepth 100000 in
set_option maxHeartbeats 2000000 in
theorem find_calls {w : World} {base gx gr c m : Nat} {X : Nat → Prop} {R : List (List B)} {piv : List Int} {d : B} (h : Elim w base gx gr c X R piv d) (grow gbx gcol row col : Nat)
    (hb : w.cell? ⟨gbx, 0, none⟩ = some (.pointer (some ⟨gx, 0, none⟩))) (hr : w.cell? ⟨grow, 0, none⟩ = some (.int .i64 (row : Int))) (hc : w.cell? ⟨gcol, 0, none⟩ = some (.int .i64 (col : Int)))
    (hm : ∀ r ∈ R, r.length = m) (hcol : col < m) (hrow : row ≤ R.length) (hlim : m ≤ 140737488351232) (hn : R.length ≤ 9223372036854775807) :
    Calls Try.prog 102 #[.pointer (some ⟨grow, 0, none⟩), .pointer (some ⟨gbx, 0, none⟩), .pointer (some ⟨gcol, 0, none⟩)] w fun e w' => e = .returned (.int .i64 (findInt R row col)) ∧ Drawn0 w w' := by
  have hx0 := h.cells.1
  have HE := Aside0.mk h
  have HM := Aside0.mk hm
  clear h hm
  go_enter Try.func102, Try.ntmps102
  go_wp2
  go_loopw [4] (fun v4 wr => ∃ i : Nat, row ≤ i ∧ i ≤ R.length ∧ v4 = .int .i64 (i : Int) ∧ Aside0 ((∀ j, row ≤ j → j < i → (R.getD j []).getD col 0 = 0) ∧ Drawn0 w wr)) (fun v4 _ => R.length - (intOf v4).toNat)
  case atStart => exact ⟨row, Nat.le_refl _, hrow, rfl, ⟨fun j h1 h2 => absurd h2 (by omega), Drawn0.refl _⟩⟩
  case round =>
    obtain ⟨i, hri, hi, rfl, HA⟩ := hrel
    obtain ⟨n1, hn1⟩ := HA.out.2.out
    subst hn1
    by_cases hlt : i < R.length
    · obtain ⟨Ai, co, hxi, hli, hCi, _⟩ := HE.out.read i hlt
      have hril := HM.out _ (getD_mem' (l := R) (i := i) hlt)
      generalize hrr : R.getD i [] = ri at hxi hli hCi hril
      obtain ⟨ad, e, hxb⟩ := Kd.at_int hCi (col : Int) (by omega) (by rw [up_length]; omega)
      subst e
      rw [Int.toNat_natCast, getD_up] at hxb
      generalize hxx : ri.getD col 0 = x at hxb
      have HRR := Aside0.mk hrr
      have HXX := Aside0.mk hxx
      have i0 : (0 : Int) ≤ (i : Int) := by omega
      have i1 : (i : Int) < (R.length : Int) := by omega
      have c0' : (0 : Int) ≤ (col : Int) := by omega
      have c1' : (col : Int) < ((up ri).length : Int) := by rw [up_length]; omega
      clear hrr hxx hli hCi hril
      by_cases hx0' : x = 0
      · have hz : (b2i x != 0) = false := by rw [bne_eq_false_iff_eq, hx0']; rfl
        have HZ := Aside0.mk hx0'
        clear hx0'
        go_wp2
        go_quiet (fail)
        go_wp2
        go_roundw
        case rel =>
          refine ⟨i + 1, by omega, by omega, by go_num, ⟨fun j h1 h2 => ?_, ⟨⟨_, rfl⟩⟩⟩⟩
          by_cases hji : j = i
          · subst hji
            rw [HRR.out, HXX.out, HZ.out]
          · exact HA.out.1 j h1 (by omega)
        case measure => simp [intOf]; omega
      · have hz : (b2i x != 0) = true := by rw [bne_iff_ne]; exact fun e => hx0' (b2i_eq_zero.1 e)
        have HF := Aside0.mk (findInt_some hlt hri (by rw [HRR.out, HXX.out]; exact hx0') HA.out.1)
        clear hx0'
        go_wp2
        go_quiet (fail)
        go_wp2
        go_ret
        exact ⟨by rw [HF.out]; rfl, HA.out.2.step _⟩
    · obtain rfl : i = R.length := by omega
      have HF := Aside0.mk (findInt_none HA.out.1)
      go_wp2
      go_ret
      exact ⟨by rw [HF.out]; rfl, HA.out.2⟩
end Go.Proofs.Ytpkghpljgjlmjaa.K
/- Words of this claim's own: two rows of a row of rows change their places. -/
namespace Go.Proofs.Ytpkghpljgjlmjaa.K
open Go.RowKit Go.Proofs.YtpkghpljgjlmjaaW.PrintWords Go.Proofs.YtpkghpljgjlmjaaW.PrintLast Go.Proofs.YtpkghpljgjlmjaaW.PrintMore
set_option linter.unusedSimpArgs false
set_option linter.unusedVariables false

theorem swap_at {α : Type} (l : List α) (i j m : Nat) (x y : α) (hx : l[i]? = some x) (hy : l[j]? = some y) : ((l.set i y).set j x)[m]? = if m = j then some x else if m = i then some y else l[m]? := by
  have hi := (List.getElem?_eq_some_iff.1 hx).1
  have hj := (List.getElem?_eq_some_iff.1 hy).1
  by_cases h1 : m = j
  · subst h1
    rw [if_pos rfl, List.getElem?_set_self (by simpa using hj)]
  · rw [if_neg h1, List.getElem?_set_ne (by omega)]
    by_cases h2 : m = i
    · subst h2
      rw [if_pos rfl, List.getElem?_set_self hi]
    · rw [if_neg h2, List.getElem?_set_ne (by omega)]
section
variable {W : World} {base g n cap : Nat} {xs : List (List Int)}
theorem S_swap (hS : Kd.S D 34 W base (fun _ => True) (.slice (some ⟨g, 0, none⟩) n cap) xs) (i j : Nat) (x y : List Int) (vi vj : Value) (hx : xs[i]? = some x) (hy : xs[j]? = some y)
    (hvi : W.cell? ⟨g, i, none⟩ = some vi) (hvj : W.cell? ⟨g, j, none⟩ = some vj) :
    Kd.S D 34 ((W.setCell ⟨g, i, none⟩ vj).setCell ⟨g, j, none⟩ vi) base (fun _ => True) (.slice (some ⟨g, 0, none⟩) n cap) ((xs.set i y).set j x) := by
  obtain ⟨f, h0, inner, ho, hr⟩ := hS
  rw [List.length_zipIdx] at ho
  have hi := (List.getElem?_eq_some_iff.1 hx).1
  have hj := (List.getElem?_eq_some_iff.1 hy).1
  have hlen : inner.length = xs.length := by
    have := hr.1
    rw [List.length_zipIdx] at this
    have e : inner.length = xs.length * 1 := this
    omega
  have hini : inner[i]? = some vi := by
    have hc := ho.cells (g := g) rfl i inner[i] (List.getElem?_eq_getElem (by omega))
    rw [add_plain] at hc
    rw [List.getElem?_eq_getElem (by omega)]
    exact hc.symm.trans hvi
  have hinj : inner[j]? = some vj := by
    have hc := ho.cells (g := g) rfl j inner[j] (List.getElem?_eq_getElem (by omega))
    rw [add_plain] at hc
    rw [List.getElem?_eq_getElem (by omega)]
    exact hc.symm.trans hvj
  have hn : n = xs.length := by
    rcases ho.2 with ⟨he, _⟩ | ⟨g', cap', cur, he, _⟩
    · cases he
    · injection he
  subst hn
  have ho1 := (ho.stored i vj).1
  have ho2 := (ho1.stored j vi).1
  have hxl : ((xs.set i y).set j x).length = xs.length := by simp
  refine ⟨fun k => if f k = i then j else if f k = j then i else f k, h0, (inner.set i vj).set j vi, ?_, ?_, ?_⟩
  · rw [List.length_zipIdx, hxl]
    exact ho2
  · rw [List.length_zipIdx, hxl]
    show _ = xs.length * 1
    simp only [List.length_set]
    omega
  · intro m p hp
    rw [List.getElem?_zipIdx, Nat.zero_add, swap_at xs i j m x y hx hy] at hp
    have hz : (D).sz = 1 := rfl
    have hone : ∀ (l : List Value) (q : Nat) (u : Value), l[q]? = some u → (l.drop (q * 1)).take 1 = [u] := by
      intro l q u hu
      have hq := (List.getElem?_eq_some_iff.1 hu).1
      rw [Nat.mul_one, List.drop_eq_getElem_cons hq, List.take_succ_cons, List.take_zero]
      congr 1
      exact (List.getElem?_eq_some_iff.1 hu).2
    have key : ∀ (q : Nat) (z : List Int) (u : Value), xs[q]? = some z → inner[q]? = some u → (Kd.tag f D).M W base (fun k => True ∧ some k ≠ (Value.slice (some ⟨g, 0, none⟩) xs.length cap).ownBlock) (z, q) [u] := by
      intro q z u hz hu
      have h2 := hr.2 q (z, q) (by rw [List.getElem?_zipIdx, hz, Nat.zero_add]; rfl)
      have e : (inner.drop (q * 1)).take 1 = [u] := hone inner q u hu
      rw [show (Kd.tag f D).sz = 1 from rfl, e] at h2
      exact h2
    have move : ∀ (q m : Nat) (z : List Int) (u : Value), (Kd.tag f D).M W base (fun k => True ∧ some k ≠ (Value.slice (some ⟨g, 0, none⟩) xs.length cap).ownBlock) (z, q) [u] →
        (∀ k, f k = q → (if f k = i then j else if f k = j then i else f k) = m) →
        (Kd.tag (fun k => if f k = i then j else if f k = j then i else f k) D).M ((W.setCell ⟨g, i, none⟩ vj).setCell ⟨g, j, none⟩ vi) base (fun k => True ∧ some k ≠ (Value.slice (some ⟨g, 0, none⟩) xs.length cap).ownBlock) (z, m) [u] := by
      intro q m z u h hf
      have h2 : (D).M W base (fun k => (True ∧ some k ≠ (Value.slice (some ⟨g, 0, none⟩) xs.length cap).ownBlock) ∧ f k = q) z [u] := h
      have hne : ∀ k, ((True ∧ some k ≠ (Value.slice (some ⟨g, 0, none⟩) xs.length cap).ownBlock) ∧ f k = q) → k ≠ g := fun k hk e => hk.1.2 (by rw [e]; rfl)
      have h3 := Kd.M_far (p := ⟨g, j, none⟩) (Kd.M_far (p := ⟨g, i, none⟩) h2 hne vj) hne vi
      show (D).M _ base (fun k => (True ∧ some k ≠ (Value.slice (some ⟨g, 0, none⟩) xs.length cap).ownBlock) ∧ (if f k = i then j else if f k = j then i else f k) = m) z [u]
      exact (D).M_mono (fun k hk => ⟨hk.1, hf k hk.2⟩) h3
    rw [show (Kd.tag (fun k => if f k = i then j else if f k = j then i else f k) D).sz = 1 from rfl]
    by_cases h1 : m = j
    · subst h1
      rw [if_pos rfl] at hp
      have hp' : (x, m) = p := by simpa using hp
      subst hp'
      rw [hone _ m vi (by rw [swap_at inner i m m vi vj hini hinj, if_pos rfl])]
      exact move i m x vi (key i x vi hx hini) (fun k hk => by rw [if_pos hk])
    · rw [if_neg h1] at hp
      by_cases h2 : m = i
      · subst h2
        rw [if_pos rfl] at hp
        have hp' : (y, m) = p := by simpa using hp
        subst hp'
        rw [hone _ m vj (by rw [swap_at inner m j m vi vj hini hinj, if_neg h1, if_pos rfl])]
        exact move j m y vj (key j y vj hy hinj) (fun k hk => by
          by_cases h3 : f k = m
          · omega
          · rw [if_neg h3, if_pos hk])
      · rw [if_neg h2] at hp
        obtain ⟨z, hz, rfl⟩ := Option.map_eq_some_iff.1 hp
        have hm := (List.getElem?_eq_some_iff.1 hz).1
        have hu : inner[m]? = some inner[m] := List.getElem?_eq_getElem (by omega)
        rw [hone _ m inner[m] (by rw [swap_at inner i j m vi vj hini hinj, if_neg h1, if_neg h2]; exact hu)]
        exact move m m z _ (key m z _ hz hu) (fun k hk => by rw [if_neg (by omega), if_neg (by omega)]; exact hk)
end
end Go.Proofs.Ytpkghpljgjlmjaa.K
/- The elimination of package matrix: run and eliminate. -/
namespace Go.Proofs.Ytpkghpljgjlmjaa.K
open Go.RowKit Go.Proofs.YtpkghpljgjlmjaaW.PrintWords Go.Proofs.YtpkghpljgjlmjaaW.PrintLast Go.Proofs.YtpkghpljgjlmjaaW.PrintMore Kin
set_option linter.unusedVariables false
set_option linter.unusedSimpArgs false

def swapRows (R : List (List B)) (i j : Nat) : List (List B) := (R.set i (R.getD j [])).set j (R.getD i [])
/-- An elimination: its rows, its pivot columns, its determinant. -/
abbrev ES := List (List B) × List Nat × B
def elimStep (s : ES) (col : Nat) : ES :=
  match findRow s.1 s.2.1.length col with
  | none => s
  | some k => (clearRows (scaleRow (swapRows s.1 s.2.1.length k) s.2.1.length col) s.2.1.length col, s.2.1 ++ [col], gmul s.2.2 (((swapRows s.1 s.2.1.length k).getD s.2.1.length []).getD col 0))
def elimRun (R : List (List B)) (cols : Nat) : ES := (List.range cols).foldl elimStep (R, [], 1)
theorem elimRun_succ (R : List (List B)) (cols : Nat) : elimRun R (cols + 1) = elimStep (elimRun R cols) cols := by
  unfold elimRun
  rw [List.range_succ, List.foldl_append]
  rfl
theorem findRow_some {R : List (List B)} {row col k : Nat} (h : findRow R row col = some k) : row ≤ k ∧ k < R.length ∧ (R.getD k []).getD col 0 ≠ 0 := by
  unfold findRow at h
  rw [List.find?_range_eq_some] at h
  obtain ⟨h1, h2, _⟩ := h
  simp only [Bool.and_eq_true, decide_eq_true_eq] at h1
  exact ⟨h1.1, by simpa using h2, h1.2⟩
theorem findRow_full {R : List (List B)} {row col : Nat} (h : R.length ≤ row) : findRow R row col = none := by
  unfold findRow
  rw [List.find?_range_eq_none]
  intro j hj
  simp; omega
theorem swapRows_length (R : List (List B)) (i j : Nat) : (swapRows R i j).length = R.length := by simp [swapRows]
theorem scaleRow_length (R : List (List B)) (i j : Nat) : (scaleRow R i j).length = R.length := by simp [scaleRow]
theorem clearRows_length (R : List (List B)) (i j : Nat) : (clearRows R i j).length = R.length := by simp [clearRows]
theorem swapRows_rows {R : List (List B)} {m : Nat} (hm : ∀ r ∈ R, r.length = m) {i j : Nat} (hi : i < R.length) (hj : j < R.length) : ∀ r ∈ swapRows R i j, r.length = m := by
  intro r hr
  unfold swapRows at hr
  rcases List.mem_or_eq_of_mem_set hr with hr | rfl
  · rcases List.mem_or_eq_of_mem_set hr with hr | rfl
    · exact hm r hr
    · exact hm _ (getD_mem' hj)
  · exact hm _ (getD_mem' hi)
theorem scaleRow_rows {R : List (List B)} {m : Nat} (hm : ∀ r ∈ R, r.length = m) {i : Nat} (j : Nat) (hi : i < R.length) : ∀ r ∈ scaleRow R i j, r.length = m := by
  intro r hr
  unfold scaleRow at hr
  rcases List.mem_or_eq_of_mem_set hr with hr | rfl
  · exact hm r hr
  · rw [List.length_map]
    exact hm _ (getD_mem' hi)
theorem clearRow_length {pr r : List B} {m : Nat} (h1 : pr.length = m) (h2 : r.length = m) (col : Nat) : (clearRow pr col r).length = m := by
  unfold clearRow
  split
  · exact h2
  · rw [addS_length _ _ _ (by omega), h2]
theorem clearRows_rows {R : List (List B)} {m : Nat} (hm : ∀ r ∈ R, r.length = m) {i : Nat} (j : Nat) (hi : i < R.length) : ∀ r ∈ clearRows R i j, r.length = m := by
  intro r hr
  unfold clearRows at hr
  rw [List.mem_mapIdx] at hr
  obtain ⟨q, hq, rfl⟩ := hr
  split
  · exact clearRow_length (hm _ (getD_mem' hi)) (hm _ (List.getElem_mem hq)) j
  · exact hm _ (List.getElem_mem hq)
theorem elimStep_length (s : ES) (col : Nat) : (elimStep s col).1.length = s.1.length := by
  unfold elimStep
  split
  · rfl
  · simp [clearRows_length, scaleRow_length, swapRows_length]
theorem elimStep_piv {s : ES} (h : s.2.1.length ≤ s.1.length) (col : Nat) : (elimStep s col).2.1.length ≤ (elimStep s col).1.length := by
  rw [elimStep_length]
  unfold elimStep
  split
  · exact h
  · rename_i k hk
    have := findRow_some hk
    simp; omega
theorem elimStep_rows {s : ES} {m : Nat} (hm : ∀ r ∈ s.1, r.length = m) (col : Nat) : ∀ r ∈ (elimStep s col).1, r.length = m := by
  unfold elimStep
  split
  · exact hm
  · rename_i k hk
    have hk := findRow_some hk
    have h1 := swapRows_rows hm (i := s.2.1.length) (j := k) (by omega) (by omega)
    have h2 := scaleRow_rows h1 (i := s.2.1.length) col (by rw [swapRows_length]; omega)
    exact clearRows_rows h2 col (by rw [scaleRow_length, swapRows_length]; omega)
theorem elimRun_length (R : List (List B)) (cols : Nat) : (elimRun R cols).1.length = R.length := by
  induction cols with
  | zero => rfl
  | succ n ih => rw [elimRun_succ, elimStep_length, ih]
theorem elimRun_piv (R : List (List B)) (cols : Nat) : (elimRun R cols).2.1.length ≤ R.length := by
  have : (elimRun R cols).2.1.length ≤ (elimRun R cols).1.length := by
    induction cols with
    | zero => exact Nat.zero_le _
    | succ n ih => rw [elimRun_succ]; exact elimStep_piv ih n
  rwa [elimRun_length] at this
theorem elimRun_rows {R : List (List B)} {m : Nat} (hm : ∀ r ∈ R, r.length = m) (cols : Nat) : ∀ r ∈ (elimRun R cols).1, r.length = m := by
  induction cols with
  | zero => exact hm
  | succ n ih => rw [elimRun_succ]; exact elimStep_rows ih n
theorem elimRun_full {R : List (List B)} {n : Nat} (h : (elimRun R n).2.1.length = R.length) : ∀ k, elimRun R (n + k) = elimRun R n := by
  intro k
  induction k with
  | zero => rfl
  | succ k ih =>
    rw [← Nat.add_assoc, elimRun_succ, ih]
    unfold elimStep
    rw [findRow_full (by rw [elimRun_length, h]; exact Nat.le_refl _)]
def natInts (l : List Nat) : List Int := l.map fun (x : Nat) => (x : Int)
section
variable {w w1 : World} {base gx gr c : Nat} {X : Nat → Prop} {R : List (List B)} {piv : List Int} {d : B}
theorem Elim.swap (h : Elim w base gx gr c X R piv d) {i j : Nat} (hi : i < R.length) (hj : j < R.length) {vi vj : Value} (hvi : w.cell? ⟨gr, i, none⟩ = some vi) (hvj : w.cell? ⟨gr, j, none⟩ = some vj) :
    Elim ((w.setCell ⟨gr, i, none⟩ vj).setCell ⟨gr, j, none⟩ vi) base gx gr c X (swapRows R i j) piv d := by
  obtain ⟨vp, hg, hp⟩ := h.piv
  have hS := S_swap h.rows i j (up (R.getD i [])) (up (R.getD j [])) vi vj (by simp [up2, List.getD_eq_getElem?_getD, List.getElem?_eq_getElem hi]) (by simp [up2, List.getD_eq_getElem?_getD, List.getElem?_eq_getElem hj]) hvi hvj
  rw [set_up2, set_up2] at hS
  have hl : (swapRows R i j).length = R.length := swapRows_length R i j
  refine ⟨⟨vp, ?_, Kd.R_far (p := ⟨gr, j, none⟩) (Kd.R_far (p := ⟨gr, i, none⟩) hp (fun k hk => hk.2.2) _) (fun k hk => hk.2.2) _⟩, ?_, h.baseX, h.baseR, h.ne⟩
  · rw [hl]
    exact (Below.heap_setCell _ _ vi gx h.ne).trans ((Below.heap_setCell w _ vj gx h.ne).trans hg)
  · rw [hl]
    exact hS
end
end Go.Proofs.Ytpkghpljgjlmjaa.K
/- The elimination of package matrix: the walk of run. -/
namespace Go.Proofs.Ytpkghpljgjlmjaa.K
open Go.RowKit Go.Proofs.YtpkghpljgjlmjaaW.PrintWords Go.Proofs.YtpkghpljgjlmjaaW.PrintLast Go.Proofs.YtpkghpljgjlmjaaW.PrintMore Kin
set_option linter.unusedVariables false
set_option linter.unusedSimpArgs false
section
variable {w w1 : World} {base gx gr c : Nat} {X X' : Nat → Prop} {R : List (List B)} {piv piv1 : List Int} {d : B}
theorem Elim.weaken (h : Elim w base gx gr c X R piv d) (hX : ∀ k, X' k → X k) : Elim w base gx gr c X' R piv d := by
  obtain ⟨vp, hg, hp⟩ := h.piv
  exact ⟨⟨vp, hg, Kd.R_mono hp (fun k hk => ⟨fun hx => hk.1 (hX k hx), hk.2⟩)⟩, h.rows, h.baseX, h.baseR, h.ne⟩
theorem Elim.avoid (h : Elim w base gx gr c X R piv d) {g : Nat} (hg : w.heap.size ≤ g) : Elim w base gx gr c (fun k => X k ∨ k = g) R piv d := by
  obtain ⟨vp, hg', hp⟩ := h.piv
  exact ⟨⟨vp, hg', Kd.R_mono (Kd.R_bound hp) (fun k hk => ⟨fun hx => hx.elim hk.1.1 (fun e => by have := hk.2.2.1; omega), hk.1.2⟩)⟩, h.rows, h.baseX, h.baseR, h.ne⟩
theorem Elim.piv' (h : Elim w base gx gr c X R piv d) : ∃ vp, w.cell? ⟨gx, 1, none⟩ = some vp ∧ Kd.R (Kd.int .i64) 3 w base (fun k => ¬ X k ∧ k ≠ gx ∧ k ≠ gr) vp piv := by
  obtain ⟨vp, hg, hp⟩ := h.piv
  exact ⟨vp, by rw [blk_cell hg]; rfl, hp⟩
theorem Elim.setPiv (h : Elim w base gx gr c X R piv d) {vp : Value} (hvp : w.cell? ⟨gx, 1, none⟩ = some vp) {v1 : Value} (hr : Kd.R (Kd.int .i64) 3 w1 base (fun k => ¬ X k ∧ k ≠ gx ∧ k ≠ gr) v1 piv1) (hgb : w.grownBy w1 vp.ownBlock) :
    Elim (w1.setCell ⟨gx, 1, none⟩ v1) base gx gr c X R piv1 d := by
  obtain ⟨vp', hg, hp⟩ := h.piv
  have e : some vp' = some vp := by rw [← hvp, blk_cell hg]; rfl
  obtain rfl := Option.some.inj e
  have hg1 := (hgb.block gx h.lt (fun e => (hp.1 gx e.symm).2.1 rfl)).trans hg
  refine ⟨⟨v1, ?_, Kd.R_far (p := ⟨gx, 1, none⟩) hr (fun k hk => hk.2.1) _⟩, ?_, h.baseX, h.baseR, h.ne⟩
  · rw [blk_set hg1]
    rfl
  · obtain ⟨inner, ho⟩ := Kd.R_own hp
    have h2 := Kd.S_over' h.rows (v := vp') (e' := 3) (fun k hk => own_typed ho k hk) (by decide) hgb
    exact Kd.S_mono (Kd.S_far (p := ⟨gx, 1, none⟩) (Kd.S_types h2 hg1 (by decide)) (fun k hk => hk.2) _) (fun _ hk => hk.1)
theorem Elim.far (h : Elim w base gx gr c X R piv d) {g t : Nat} {cells : Array Value} (hb : w.heap[g]? = some (.cells cells t (0, 0))) (hX : X g) (h1 : g ≠ gx) (ht : ∀ q, q ∈ 34 :: D.E → q ≠ t) (j : Nat) (v : Value) : Elim (w.setCell ⟨g, j, none⟩ v) base gx gr c X R piv d := by
  obtain ⟨vp, hg, hp⟩ := h.piv
  refine ⟨⟨vp, (Below.heap_setCell w _ v gx (Ne.symm h1)).trans hg, Kd.R_far (p := ⟨g, j, none⟩) hp (fun k hk e => hk.1 (e ▸ hX)) _⟩, ?_, h.baseX, h.baseR, h.ne⟩
  exact Kd.S_mono (Kd.S_far (p := ⟨g, j, none⟩) (Kd.S_types h.rows hb ht) (fun k hk => hk.2) _) (fun _ hk => hk.1)
end

def f87.T8 : Bool × List (List Nat × List Nat) := (true, [([], []), ([0], [0]), ([1], [1]), ([2], [2]), ([], []), ([], []), ([5], [5]), ([6], [6]), ([7], [7]), ([], []), ([], []), ([10], [10]), ([11], [11]), ([12], [12]), ([], []), ([13, 14], [13, 14]), ([15], [15]), ([], []), ([17], [17]), ([18], [18]), ([19], [19]), ([], []), ([20, 21], [20, 21]), ([22], [22]), ([3, 4, 0, 1, 2, 3, 4, 8, 10, 11, 12, 13, 14, 15, 16, 20, 23], [3, 4]), ([24, 16, 0, 1, 2, 3, 4, 8, 10, 11, 12, 13, 14, 15, 16, 20, 23], [16, 24]), ([8, 9, 0, 1, 2, 3, 4, 5, 6, 7, 8, 9, 10, 11, 12, 13, 14, 15, 16, 17, 18, 19, 20, 21, 22, 23, 24, 25], [8, 9]), ([26, 23, 25, 0, 1, 2, 3, 4, 5, 6, 7, 8, 9, 10, 11, 12, 13, 14, 15, 16, 17, 18, 19, 20, 21, 22, 23, 24, 25], [23, 26])])
def f87.B8 : List Nat := [0, 1, 3, 7, 0, 0, 32, 96, 224, 0, 0, 1024, 3072, 7168, 0, 31744, 64512, 0, 131072, 393216, 917504, 0, 4063232, 8257536, 16776703, 33553919, 67108863, 134217727]
theorem f87.tab8 : rtab .any (opsOf Try.f87 8) = f87.T8 := by kernel_rfl
theorem f87.bits8 : waitsOk f87.T8.2 f87.B8 = true := by kernel_rfl
def f87.T11 : Bool × List (List Nat × List Nat) := (true, [([], []), ([], []), ([1], [1]), ([2], [2]), ([3], [3]), ([], []), ([5], [5]), ([4, 6], [4, 6]), ([0, 0, 1, 2, 3, 4, 5, 6, 7], [0]), ([8, 0, 1, 2, 3, 4, 5, 6, 7], [8]), ([9, 7, 7, 0, 1, 2, 3, 4, 5, 6, 7], [7, 9])])
def f87.B11 : List Nat := [0, 0, 2, 6, 14, 0, 32, 126, 255, 511, 1023]
theorem f87.tab11 : rtab .any (opsOf Try.f87 11) = f87.T11 := by kernel_rfl
theorem f87.bits11 : waitsOk f87.T11.2 f87.B11 = true := by kernel_rfl
def runX (gbx grow : Nat) : Nat → Prop := fun k => (False ∨ k = gbx) ∨ k = grow
structure RunSt (w0 w : World) (base gx gr c gbx grow : Nat) (s : ES) : Prop where
  elim : Elim w base gx gr c (runX gbx grow) s.1 (natInts s.2.1) s.2.2
  box : w.heap[gbx]? = some (.cells #[.pointer (some ⟨gx, 0, none⟩)] 77 (0, 0))
  row : w.heap[grow]? = some (.cells #[.int .i64 (s.2.1.length : Int)] 3 (0, 0))
  below : Below base w0 w
  n1 : gbx ≠ gx
  n2 : gbx ≠ gr
  n3 : grow ≠ gx
  n4 : grow ≠ gr
  n5 : gbx ≠ grow
  base1 : base ≤ grow
  base2 : base ≤ gbx
theorem RunSt.start {w0 w w1 w2 : World} {base gx gr c gbx grow : Nat} {R : List (List B)} (h : Elim w base gx gr c (fun _ => False) R [] 1) (hB : Below base w0 w) (hg1 : gbx = w.heap.size) (hb1 : w1.heap[gbx]? = some (.cells #[.pointer (some ⟨gx, 0, none⟩)] 77 (0, 0))) (hB1 : Below w.heap.size w w1)
    (hg2 : grow = w1.heap.size) (hb2 : w2.heap[grow]? = some (.cells #[.int .i64 0] 3 (0, 0))) (hB2 : Below w1.heap.size w1 w2) : RunSt w0 (w2.setCell ⟨grow, 0, none⟩ (.int .i64 0)) base gx gr c gbx grow (elimRun R 0) := by
  have h1 := h.lt
  have h2 := h.ltr
  have h3 := hB1.size
  have h4 := h.baseX
  have hA := h.avoid (g := gbx) (by omega)
  have hA2 := hA.avoid (g := grow) (by omega)
  have hl := blk_lt hb1
  have hb1' := (hB2.block gbx (by omega)).trans hb1
  have h5 : Below base w0 w2 := (hB.trans (hB1.mono (by omega))).trans (hB2.mono (by omega))
  have hE := (hA2.below hB1).below hB2
  refine ⟨hE.far hb2 (.inr rfl) (by omega) (by decide) 0 _, blk_far hb1' (by show gbx ≠ grow; omega) _, ?_, h5.setCell (by show base ≤ grow; omega) _, by omega, by omega, by omega, by omega, by omega, by omega, by omega⟩
  rw [blk_set hb2]
  rfl
def colX (gbx grow gcol : Nat) : Nat → Prop := fun k => runX gbx grow k ∨ k = gcol
/-- Inside a round: the column's variable too. -/
structure ColSt (w0 w : World) (base gx gr c gbx grow gcol j r : Nat) (R : List (List B)) (piv : List Int) (d : B) : Prop where
  elim : Elim w base gx gr c (colX gbx grow gcol) R piv d
  box : w.heap[gbx]? = some (.cells #[.pointer (some ⟨gx, 0, none⟩)] 77 (0, 0))
  row : w.heap[grow]? = some (.cells #[.int .i64 (r : Int)] 3 (0, 0))
  col : w.heap[gcol]? = some (.cells #[.int .i64 (j : Int)] 3 (0, 0))
  below : Below base w0 w
  n1 : gbx ≠ gx
  n2 : gbx ≠ gr
  n3 : grow ≠ gx
  n4 : grow ≠ gr
  n5 : gbx ≠ grow
  n6 : gcol ≠ gx
  n7 : gcol ≠ gr
  n8 : gcol ≠ gbx
  n9 : gcol ≠ grow
  base1 : base ≤ grow
  base2 : base ≤ gbx
section
variable {w0 w w1 : World} {base gx gr c gbx grow gcol j r : Nat} {R R1 : List (List B)} {piv piv1 : List Int} {d d1 : B}
theorem ColSt.boxc (h : ColSt w0 w base gx gr c gbx grow gcol j r R piv d) : w.cell? ⟨gbx, 0, none⟩ = some (.pointer (some ⟨gx, 0, none⟩)) := by rw [blk_cell h.box]; rfl
theorem ColSt.rowc (h : ColSt w0 w base gx gr c gbx grow gcol j r R piv d) : w.cell? ⟨grow, 0, none⟩ = some (.int .i64 (r : Int)) := by rw [blk_cell h.row]; rfl
theorem ColSt.colc (h : ColSt w0 w base gx gr c gbx grow gcol j r R piv d) : w.cell? ⟨gcol, 0, none⟩ = some (.int .i64 (j : Int)) := by rw [blk_cell h.col]; rfl
theorem ColSt.rowf (h : ColSt w0 w base gx gr c gbx grow gcol j r R piv d) : w.frozen? ⟨grow, 0, none⟩ = false := blk_frozen h.row 0
theorem ColSt.to (h : ColSt w0 w base gx gr c gbx grow gcol j r R piv d) (hB : Below w.heap.size w w1) : ColSt w0 w1 base gx gr c gbx grow gcol j r R piv d :=
  ⟨h.elim.below hB, (hB.block _ (blk_lt h.box)).trans h.box, (hB.block _ (blk_lt h.row)).trans h.row, (hB.block _ (blk_lt h.col)).trans h.col, h.below.trans (hB.mono (Nat.le_trans h.base1 (Nat.le_of_lt (blk_lt h.row)))), h.n1, h.n2, h.n3, h.n4, h.n5, h.n6, h.n7, h.n8, h.n9, h.base1, h.base2⟩
theorem ColSt.drewN (h : ColSt w0 w base gx gr c gbx grow gcol j r R piv d) (n : Nat) : ColSt w0 (w.drewN n) base gx gr c gbx grow gcol j r R piv d := h.to (pw_below_drewN (Below.refl _ _) n)
theorem ColSt.drew (h : ColSt w0 w base gx gr c gbx grow gcol j r R piv d) : ColSt w0 w.drew base gx gr c gbx grow gcol j r R piv d := h.to (below_drew (Below.refl _ _))
theorem ColSt.framed (h : ColSt w0 w base gx gr c gbx grow gcol j r R piv d) (hE : Elim w1 base gx gr c (colX gbx grow gcol) R1 piv1 d1) (hF : FrameE w w1 gx gr) : ColSt w0 w1 base gx gr c gbx grow gcol j r R1 piv1 d1 :=
  ⟨hE, (hF.block _ (blk_lt h.box) h.n1 h.n2).trans h.box, (hF.block _ (blk_lt h.row) h.n3 h.n4).trans h.row, (hF.block _ (blk_lt h.col) h.n6 h.n7).trans h.col, hF.toBelow h.below hE.baseX hE.baseR (Nat.le_trans h.base1 (Nat.le_of_lt (blk_lt h.row))), h.n1, h.n2, h.n3, h.n4, h.n5, h.n6, h.n7, h.n8, h.n9, h.base1, h.base2⟩
theorem ColSt.swap (h : ColSt w0 w base gx gr c gbx grow gcol j r R piv d) {i k : Nat} (hi : i < R.length) (hj : k < R.length) {vi vj : Value} (hvi : w.cell? ⟨gr, i, none⟩ = some vi) (hvj : w.cell? ⟨gr, k, none⟩ = some vj) :
    ColSt w0 ((w.setCell ⟨gr, i, none⟩ vj).setCell ⟨gr, k, none⟩ vi) base gx gr c gbx grow gcol j r (swapRows R i k) piv d :=
  h.framed (h.elim.swap hi hj hvi hvj) (((FrameE.refl w gx gr).set (p := ⟨gr, i, none⟩) (.inr rfl) _).set (p := ⟨gr, k, none⟩) (.inr rfl) _)
theorem ColSt.append (h : ColSt w0 w base gx gr c gbx grow gcol j r R piv d) {vp : Value} (hvp : w.cell? ⟨gx, 1, none⟩ = some vp) {v1 : Value} (hr : Kd.R (Kd.int .i64) 3 w1 base (fun k => ¬ colX gbx grow gcol k ∧ k ≠ gx ∧ k ≠ gr) v1 piv1) (hgb : w.grownBy w1 vp.ownBlock) (hb : Below base w0 w1) :
    ColSt w0 (w1.setCell ⟨gx, 1, none⟩ v1) base gx gr c gbx grow gcol j r R piv1 d := by
  obtain ⟨vp', hg', hp⟩ := h.elim.piv
  have e : some vp' = some vp := by rw [← hvp, blk_cell hg']; rfl
  obtain rfl := Option.some.inj e
  have f : ∀ k, colX gbx grow gcol k → some k ≠ vp'.ownBlock := fun k hk e => (hp.1 k e.symm).1 hk
  exact ⟨h.elim.setPiv hvp hr hgb, blk_far ((hgb.block _ (blk_lt h.box) (f _ (.inl (.inl (.inr rfl))))).trans h.box) h.n1 _, blk_far ((hgb.block _ (blk_lt h.row) (f _ (.inl (.inr rfl)))).trans h.row) h.n3 _, blk_far ((hgb.block _ (blk_lt h.col) (f _ (.inr rfl))).trans h.col) h.n6 _, hb.setCell h.elim.baseX _, h.n1, h.n2, h.n3, h.n4, h.n5, h.n6, h.n7, h.n8, h.n9, h.base1, h.base2⟩
theorem ColSt.inc (h : ColSt w0 w base gx gr c gbx grow gcol j r R piv d) (r1 : Nat) : ColSt w0 (w.setCell ⟨grow, 0, none⟩ (.int .i64 (r1 : Int))) base gx gr c gbx grow gcol j r1 R piv d :=
  ⟨h.elim.far h.row (.inl (.inr rfl)) h.n3 (by decide) 0 _, blk_far h.box h.n5 _, by rw [blk_set h.row]; rfl, blk_far h.col h.n9 _, h.below.setCell h.base1 _, h.n1, h.n2, h.n3, h.n4, h.n5, h.n6, h.n7, h.n8, h.n9, h.base1, h.base2⟩
theorem ColSt.run {pv : List Nat} (h : ColSt w0 w base gx gr c gbx grow gcol j pv.length R (natInts pv) d) : RunSt w0 w base gx gr c gbx grow (R, pv, d) :=
  ⟨h.elim.weaken (fun _ hk => .inl hk), h.box, h.row, h.below, h.n1, h.n2, h.n3, h.n4, h.n5, h.base1, h.base2⟩
theorem RunSt.colSt {s : ES} (h : RunSt w0 w base gx gr c gbx grow s) (hg : gcol = w.heap.size) (hb : w1.heap[gcol]? = some (.cells #[.int .i64 0] 3 (0, 0))) (hB : Below w.heap.size w w1) (j : Nat) :
    ColSt w0 (w1.setCell ⟨gcol, 0, none⟩ (.int .i64 (j : Int))) base gx gr c gbx grow gcol j s.2.1.length s.1 (natInts s.2.1) s.2.2 := by
  have l1 := blk_lt h.box
  have l2 := blk_lt h.row
  have l3 := h.elim.lt
  have l4 := h.elim.ltr
  have l5 := h.base1
  have hE := ((h.elim.avoid (g := gcol) (by omega)).below hB).far hb (.inr rfl) (by omega) (by decide) 0 (.int .i64 (j : Int))
  refine ⟨hE, blk_far ((hB.block _ l1).trans h.box) (by show gbx ≠ gcol; omega) _, blk_far ((hB.block _ l2).trans h.row) (by show grow ≠ gcol; omega) _, by rw [blk_set hb]; rfl, (h.below.trans (hB.mono (by omega))).setCell (by show base ≤ gcol; omega) _, h.n1, h.n2, h.n3, h.n4, h.n5, by omega, by omega, by omega, by omega, h.base1, h.base2⟩
end

set_option maxRecDepth 100000 in
set_option maxHeartbeats 8000000 in
theorem run_calls {w0 w : World} {base gx gr c m : Nat} {R : List (List B)} (h : Elim w base gx gr c (fun _ => False) R [] 1) (hB : Below base w0 w) (cols : Nat)
    (hm : ∀ r ∈ R, r.length = m) (hcols : cols ≤ m) (hlim : m ≤ 1000) (hn : R.length ≤ 64) :
    Calls Try.prog 87 #[.pointer (some ⟨gx, 0, none⟩), .int .i64 (cols : Int)] w fun e w' => e = .returned (.tuple #[]) ∧ Elim w' base gx gr c (fun _ => False) (elimRun R cols).1 (natInts (elimRun R cols).2.1) (elimRun R cols).2.2 ∧ Below base w0 w' := by
  have hmf : ∀ (fn : Fn) (first cap : Array Value) (w : World), (Instr.makeFunc fn first cap).run Try.prog w = .ok (.func fn first cap) w := fun _ _ _ _ => rfl
  have HE := Aside0.mk h
  have HM := Aside0.mk hm
  have HBB := Aside0.mk hB
  clear h hm hB
  go_enter Try.func87, Try.ntmps87
  go_wp2_with (first | ((with_reducible refine gate_dst (N := 2) rfl ?_); refine box_event rfl (N := 2) rfl (cs := #[.pointer (some ⟨gx, 0, none⟩)]) (t := 77) ?hrun ?_; (case hrun => first | (go_simp; done) | (go_simp; rfl)); intro gbx hgb w1 hb1 hB1; have HG1 := Aside0.mk hgb; have HB1 := Aside0.mk hB1; have HK1 := Aside0.mk hb1; clear hgb hb1 hB1) | ((with_reducible refine gate_dst (N := 4) rfl ?_); refine box_event rfl (N := 4) rfl (cs := #[.int .i64 0]) (t := 3) ?hrun ?_; (case hrun => first | (go_simp; done) | (go_simp; rfl)); intro grow hgr w2 hb2 hB2; have HG2 := Aside0.mk hgr; have HB2 := Aside0.mk hB2; have HK2 := Aside0.mk hb2; have hxr := blk_cell hb2 0; have hfr := blk_frozen hb2 0; have hlr := blk_lt hb2; clear hgr hb2 hB2))
  go_frame
  go_step3
  go_wp2_with (first | ((with_reducible refine gate_dst (N := 2) rfl ?_); refine box_event rfl (N := 2) rfl (cs := #[.pointer (some ⟨gx, 0, none⟩)]) (t := 77) ?hrun ?_; (case hrun => first | (go_simp; done) | (go_simp; rfl)); intro gbx hgb w1 hb1 hB1; have HG1 := Aside0.mk hgb; have HB1 := Aside0.mk hB1; have HK1 := Aside0.mk hb1; clear hgb hb1 hB1) | ((with_reducible refine gate_dst (N := 4) rfl ?_); refine box_event rfl (N := 4) rfl (cs := #[.int .i64 0]) (t := 3) ?hrun ?_; (case hrun => first | (go_simp; done) | (go_simp; rfl)); intro grow hgr w2 hb2 hB2; have HG2 := Aside0.mk hgr; have HB2 := Aside0.mk hB2; have HK2 := Aside0.mk hb2; have hxr := blk_cell hb2 0; have hfr := blk_frozen hb2 0; have hlr := blk_lt hb2; clear hgr hb2 hB2))
  go_step3
  go_wp2_with (first | ((with_reducible refine gate_dst (N := 2) rfl ?_); refine box_event rfl (N := 2) rfl (cs := #[.pointer (some ⟨gx, 0, none⟩)]) (t := 77) ?hrun ?_; (case hrun => first | (go_simp; done) | (go_simp; rfl)); intro gbx hgb w1 hb1 hB1; have HG1 := Aside0.mk hgb; have HB1 := Aside0.mk hB1; have HK1 := Aside0.mk hb1; clear hgb hb1 hB1) | ((with_reducible refine gate_dst (N := 4) rfl ?_); refine box_event rfl (N := 4) rfl (cs := #[.int .i64 0]) (t := 3) ?hrun ?_; (case hrun => first | (go_simp; done) | (go_simp; rfl)); intro grow hgr w2 hb2 hB2; have HG2 := Aside0.mk hgr; have HB2 := Aside0.mk hB2; have HK2 := Aside0.mk hb2; have hxr := blk_cell hb2 0; have hfr := blk_frozen hb2 0; have hlr := blk_lt hb2; clear hgr hb2 hB2))
  have hST := RunSt.start HE.out HBB.out HG1.out HK1.out HB1.out HG2.out HK2.out HB2.out
  have HST := Aside0.mk hST
  clear hST hxr hfr hlr HG1 HK1 HB1 HG2 HK2 HB2
  generalize (w2.setCell ⟨grow, 0, none⟩ (.int .i64 0)) = W0 at HST ⊢
  clear w1 w2
  go_loopw [9] (fun v9 wr => ∃ j : Nat, j ≤ cols ∧ v9 = .int .i64 (j : Int) ∧ Aside0 (RunSt w0 wr base gx gr c gbx grow (elimRun R j))) (fun v9 _ => cols - (intOf v9).toNat)
  case atStart => exact ⟨0, by omega, rfl, HST⟩
  case round =>
    obtain ⟨j, hj, rfl, HA⟩ := hrel
    by_cases hlt : j < cols
    · have HL := Aside0.mk (elimRun_length R j)
      have HP := Aside0.mk (elimRun_piv R j)
      have HR := Aside0.mk (elimRun_rows HM.out j)
      have HS := Aside0.mk (elimRun_succ R j)
      generalize hs : elimRun R j = s at HA HL HP HR HS
      have HF := Aside0.mk hs
      clear hs
      obtain ⟨Rj, piv, det⟩ := s
      obtain ⟨wo, rfl⟩ : ∃ wo : World, wo = wr := ⟨_, rfl⟩
      rcases hfind : findRow Rj piv.length j with _ | k
      · have HFI := Aside0.mk (show findInt Rj piv.length j = -1 by unfold findInt; rw [hfind])
        have HFE := Aside0.mk hfind
        clear hfind
        go_wp2_with (first | ((with_reducible refine gate_dst (N := 5) rfl ?_); refine box_event rfl (N := 5) rfl (cs := #[.int .i64 0]) (t := 3) ?hrun ?_; (case hrun => first | (go_simp; done) | (go_simp; rfl)); intro gcol hgc w5 hb5 hB5; have HG5 := Aside0.mk hgc; have HB5 := Aside0.mk hB5; have HK5 := Aside0.mk hb5; have hxc := blk_cell hb5 0; have hfc := blk_frozen hb5 0; have hlc := blk_lt hb5; clear hgc hb5 hB5; have HCS := Aside0.mk (RunSt.colSt HA.out HG5.out HK5.out HB5.out j)) | (with_reducible refine (find_calls HCS.out.elim grow gbx gcol piv.length j HCS.out.boxc HCS.out.rowc HCS.out.colc HR.out (by omega) (by have := HP.out; have := HL.out; (try simp only at *); omega) (by omega) (by have := HL.out; (try simp only at *); omega)).mono ?_; rintro e w6 ⟨rfl, hdr⟩; obtain ⟨n1, hn1⟩ := hdr.out; subst hn1; rw [HFI.out]; clear hdr; replace HCS := Aside0.mk (HCS.out.drewN n1)))
        go_roundw
        case rel =>
          refine ⟨j + 1, by omega, by go_num, ⟨?_⟩⟩
          have e : elimStep (Rj, piv, det) j = (Rj, piv, det) := by unfold elimStep; rw [HFE.out]
          rw [HS.out, e]
          exact HCS.out.run
        case measure => simp [intOf]; omega
      · have HFI := Aside0.mk (show findInt Rj piv.length j = k by unfold findInt; rw [hfind])
        have HFE := Aside0.mk hfind
        have hk := findRow_some hfind
        have HK := Aside0.mk hk
        clear hfind
        have hk1 := hk.1
        have hk2 := hk.2.1
        have hkn : decide ((k : Int) < 0) = false := by rw [decide_eq_false_iff_not]; omega
        clear hk
        go_wp2_with (first | ((with_reducible refine gate_dst (N := 5) rfl ?_); refine box_event rfl (N := 5) rfl (cs := #[.int .i64 0]) (t := 3) ?hrun ?_; (case hrun => first | (go_simp; done) | (go_simp; rfl)); intro gcol hgc w5 hb5 hB5; have HG5 := Aside0.mk hgc; have HB5 := Aside0.mk hB5; have HK5 := Aside0.mk hb5; have hxc := blk_cell hb5 0; have hfc := blk_frozen hb5 0; have hlc := blk_lt hb5; clear hgc hb5 hB5; have HCS := Aside0.mk (RunSt.colSt HA.out HG5.out HK5.out HB5.out j)) | (with_reducible refine (find_calls HCS.out.elim grow gbx gcol piv.length j HCS.out.boxc HCS.out.rowc HCS.out.colc HR.out (by omega) (by have := HP.out; have := HL.out; (try simp only at *); omega) (by omega) (by have := HL.out; (try simp only at *); omega)).mono ?_; rintro e w6 ⟨rfl, hdr⟩; obtain ⟨n1, hn1⟩ := hdr.out; subst hn1; rw [HFI.out]; clear hdr; replace HCS := Aside0.mk (HCS.out.drewN n1)))
        clear hxc hfc hlc HG5 HB5 HK5
        have hHCS := HCS.out
        clear HCS
        generalize ((w5.setCell ⟨gcol, 0, none⟩ (.int .i64 (j : Int))).drewN n1) = W at hHCS ⊢
        have hx0 := hHCS.elim.cells.1
        have hLj := HL.out
        have hPj := HP.out
        replace hLj : Rj.length = R.length := hLj
        replace hPj : piv.length ≤ R.length := hPj
        obtain ⟨Ap, cp, hxp, hlp, hCp, hfp⟩ := hHCS.elim.read piv.length (by omega)
        obtain ⟨Ak, ck, hxk, hlk, hCk, hfk⟩ := hHCS.elim.read k (by omega)
        clear hlp hCp hlk hCk
        generalize (up (Rj.getD piv.length [])).length = np at hxp
        generalize (up (Rj.getD k [])).length = nk at hxk
        have hxb := hHCS.boxc
        have hxr := hHCS.rowc
        have p0 : (0 : Int) ≤ (piv.length : Int) := by omega
        have p1 : (piv.length : Int) < (Rj.length : Int) := by omega
        have k0 : (0 : Int) ≤ (k : Int) := by omega
        have k1 : (k : Int) < (Rj.length : Int) := by omega
        have HCS := Aside0.mk hHCS
        have HL1 := Aside0.mk (show piv.length < Rj.length by omega)
        have HL2 := Aside0.mk hk2
        clear hHCS hk1 hk2 hLj hPj
        refine start_ (n := 28) (S := fun w' => w'.cell? ⟨gbx, 0, none⟩ = some (.pointer (some ⟨gx, 0, none⟩)) ∧ w'.cell? ⟨grow, 0, none⟩ = some (.int .i64 (piv.length : Int)) ∧ w'.cell? ⟨gx, 0, none⟩ = some (.slice (some ⟨gr, 0, none⟩) Rj.length c) ∧ w'.cell? ⟨gr, k, none⟩ = some (.slice Ak nk ck) ∧ w'.cell? ⟨gr, piv.length, none⟩ = some (.slice Ap np cp)) (ds := [25, 27]) #[false, false, false, false, false, false, false, false, false, false, false, false, false, false, false, false, false, false, false, false, false, false, false, false, false, false, false, false] (by kernel_rfl) rfl rfl ⟨hxb, hxr, hx0, hxk, hxp⟩ (fun hHeld => ?_)
        refine with_tabW f87.tab8 f87.bits8 (fun HT_ HW_ => ?_)
        have HC := Aside0.mk HCS.out.drew
        replace hfp : W.drew.frozen? ⟨gr, piv.length, none⟩ = false := hfp
        replace hfk : W.drew.frozen? ⟨gr, k, none⟩ = false := hfk
        clear hxb hxr hx0 hxk hxp
        generalize W.drew = W1 at HC hfp hfk hHeld ⊢
        clear HCS w5
        refine pure_ (i := 9) (N := some 26) (v := ?_) (a' := ?_) #[false, false, false, false, false, false, false, false, false, true, false, false, false, false, false, false, false, false, false, false, false, false, false, false, false, false, false, false] rfl rfl (any_of HT_.out (by kernel_rfl)) (fun _ _ _ h => h) (Or.inl ⟨by rfl, ?_⟩) ?_ ?_
        rotate_left
        · intro w'
          go_simp
          with_reducible rfl
        rotate_left
        · simp only [Act.put, List.setIfInBounds_toArray, List.set_cons_zero, List.set_cons_succ, i64_w, i32_w]
          rfl
        refine pure_ (i := 14) (N := some 31) (v := ?_) (a' := ?_) #[false, false, false, false, false, false, false, false, false, true, false, false, false, false, true, false, false, false, false, false, false, false, false, false, false, false, false, false] rfl rfl (any_of HT_.out (by kernel_rfl)) (fun _ _ _ h => h) (Or.inl ⟨by rfl, ?_⟩) ?_ ?_
        rotate_left
        · intro w'
          go_simp
          with_reducible rfl
        rotate_left
        · simp only [Act.put, List.setIfInBounds_toArray, List.set_cons_zero, List.set_cons_succ, i64_w, i32_w]
          rfl
        refine take_ (i := 0) (N := some 17) (v := ?_) (a' := ?_) #[true, false, false, false, false, false, false, false, false, true, false, false, false, false, true, false, false, false, false, false, false, false, false, false, false, false, false, false] rfl rfl (take_ofW HT_.out HW_.out (by kernel_rfl)) (fun _ _ _ h => h) (Or.inl ⟨by rfl, ?_⟩) hHeld ?_ ?_
        rotate_left
        · rintro w' ⟨s0, s1, s2, s3, s4⟩
          go_simp
          with_reducible rfl
        rotate_left
        · simp only [Act.put, List.setIfInBounds_toArray, List.set_cons_zero, List.set_cons_succ, i64_w, i32_w]
          rfl
        refine pure_ (i := 1) (N := some 18) (v := ?_) (a' := ?_) #[true, true, false, false, false, false, false, false, false, true, false, false, false, false, true, false, false, false, false, false, false, false, false, false, false, false, false, false] rfl rfl (any_of HT_.out (by kernel_rfl)) (fun _ _ _ h => h) (Or.inl ⟨by rfl, ?_⟩) ?_ ?_
        rotate_left
        · intro w'
          go_simp
          with_reducible rfl
        rotate_left
        · simp only [Act.put, List.setIfInBounds_toArray, List.set_cons_zero, List.set_cons_succ, i64_w, i32_w]
          rfl
        refine pure_ (i := 2) (N := some 19) (v := ?_) (a' := ?_) #[true, true, true, false, false, false, false, false, false, true, false, false, false, false, true, false, false, false, false, false, false, false, false, false, false, false, false, false] rfl rfl (any_of HT_.out (by kernel_rfl)) (fun _ _ _ h => h) (Or.inl ⟨by rfl, ?_⟩) ?_ ?_
        rotate_left
        · intro w'
          go_simp
          with_reducible rfl
        rotate_left
        · simp only [Act.put, List.setIfInBounds_toArray, List.set_cons_zero, List.set_cons_succ, i64_w, i32_w]
          rfl
        refine take_ (i := 3) (N := some 20) (v := ?_) (a' := ?_) #[true, true, true, true, false, false, false, false, false, true, false, false, false, false, true, false, false, false, false, false, false, false, false, false, false, false, false, false] rfl rfl (take_ofW HT_.out HW_.out (by kernel_rfl)) (fun _ _ _ h => h) (Or.inl ⟨by rfl, ?_⟩) hHeld ?_ ?_
        rotate_left
        · rintro w' ⟨s0, s1, s2, s3, s4⟩
          go_simp
          with_reducible rfl
        rotate_left
        · simp only [Act.put, List.setIfInBounds_toArray, List.set_cons_zero, List.set_cons_succ, i64_w, i32_w]
          rfl
        refine take_ (i := 4) (N := some 21) (v := ?_) (a' := ?_) #[true, true, true, true, true, false, false, false, false, true, false, false, false, false, true, false, false, false, false, false, false, false, false, false, false, false, false, false] rfl rfl (take_ofW HT_.out HW_.out (by kernel_rfl)) (fun _ _ _ h => h) (Or.inl ⟨by rfl, ?_⟩) hHeld ?_ ?_
        rotate_left
        · rintro w' ⟨s0, s1, s2, s3, s4⟩
          go_simp
          with_reducible rfl
        rotate_left
        · simp only [Act.put, List.setIfInBounds_toArray, List.set_cons_zero, List.set_cons_succ, i64_w, i32_w]
          rfl
        refine take_ (i := 5) (N := some 22) (v := ?_) (a' := ?_) #[true, true, true, true, true, true, false, false, false, true, false, false, false, false, true, false, false, false, false, false, false, false, false, false, false, false, false, false] rfl rfl (take_ofW HT_.out HW_.out (by kernel_rfl)) (fun _ _ _ h => h) (Or.inl ⟨by rfl, ?_⟩) hHeld ?_ ?_
        rotate_left
        · rintro w' ⟨s0, s1, s2, s3, s4⟩
          go_simp
          with_reducible rfl
        rotate_left
        · simp only [Act.put, List.setIfInBounds_toArray, List.set_cons_zero, List.set_cons_succ, i64_w, i32_w]
          rfl
        refine pure_ (i := 6) (N := some 23) (v := ?_) (a' := ?_) #[true, true, true, true, true, true, true, false, false, true, false, false, false, false, true, false, false, false, false, false, false, false, false, false, false, false, false, false] rfl rfl (any_of HT_.out (by kernel_rfl)) (fun _ _ _ h => h) (Or.inl ⟨by rfl, ?_⟩) ?_ ?_
        rotate_left
        · intro w'
          go_simp
          with_reducible rfl
        rotate_left
        · simp only [Act.put, List.setIfInBounds_toArray, List.set_cons_zero, List.set_cons_succ, i64_w, i32_w]
          rfl
        refine pure_ (i := 7) (N := some 24) (v := ?_) (a' := ?_) #[true, true, true, true, true, true, true, true, false, true, false, false, false, false, true, false, false, false, false, false, false, false, false, false, false, false, false, false] rfl rfl (any_of HT_.out (by kernel_rfl)) (fun _ _ _ h => h) (Or.inl ⟨by rfl, ?_⟩) ?_ ?_
        rotate_left
        · intro w'
          go_simp
          with_reducible rfl
        rotate_left
        · simp only [Act.put, List.setIfInBounds_toArray, List.set_cons_zero, List.set_cons_succ, i64_w, i32_w]
          rfl
        refine take_ (i := 8) (N := some 25) (v := ?_) (a' := ?_) #[true, true, true, true, true, true, true, true, true, true, false, false, false, false, true, false, false, false, false, false, false, false, false, false, false, false, false, false] rfl rfl (take_ofW HT_.out HW_.out (by kernel_rfl)) (fun _ _ _ h => h) (Or.inl ⟨by rfl, ?_⟩) hHeld ?_ ?_
        rotate_left
        · rintro w' ⟨s0, s1, s2, s3, s4⟩
          go_simp
          with_reducible rfl
        rotate_left
        · simp only [Act.put, List.setIfInBounds_toArray, List.set_cons_zero, List.set_cons_succ, i64_w, i32_w]
          rfl
        refine take_ (i := 10) (N := some 27) (v := ?_) (a' := ?_) #[true, true, true, true, true, true, true, true, true, true, true, false, false, false, true, false, false, false, false, false, false, false, false, false, false, false, false, false] rfl rfl (take_ofW HT_.out HW_.out (by kernel_rfl)) (fun _ _ _ h => h) (Or.inl ⟨by rfl, ?_⟩) hHeld ?_ ?_
        rotate_left
        · rintro w' ⟨s0, s1, s2, s3, s4⟩
          go_simp
          with_reducible rfl
        rotate_left
        · simp only [Act.put, List.setIfInBounds_toArray, List.set_cons_zero, List.set_cons_succ, i64_w, i32_w]
          rfl
        refine pure_ (i := 11) (N := some 28) (v := ?_) (a' := ?_) #[true, true, true, true, true, true, true, true, true, true, true, true, false, false, true, false, false, false, false, false, false, false, false, false, false, false, false, false] rfl rfl (any_of HT_.out (by kernel_rfl)) (fun _ _ _ h => h) (Or.inl ⟨by rfl, ?_⟩) ?_ ?_
        rotate_left
        · intro w'
          go_simp
          with_reducible rfl
        rotate_left
        · simp only [Act.put, List.setIfInBounds_toArray, List.set_cons_zero, List.set_cons_succ, i64_w, i32_w]
          rfl
        refine pure_ (i := 12) (N := some 29) (v := ?_) (a' := ?_) #[true, true, true, true, true, true, true, true, true, true, true, true, true, false, true, false, false, false, false, false, false, false, false, false, false, false, false, false] rfl rfl (any_of HT_.out (by kernel_rfl)) (fun _ _ _ h => h) (Or.inl ⟨by rfl, ?_⟩) ?_ ?_
        rotate_left
        · intro w'
          go_simp
          with_reducible rfl
        rotate_left
        · simp only [Act.put, List.setIfInBounds_toArray, List.set_cons_zero, List.set_cons_succ, i64_w, i32_w]
          rfl
        refine take_ (i := 13) (N := some 30) (v := ?_) (a' := ?_) #[true, true, true, true, true, true, true, true, true, true, true, true, true, true, true, false, false, false, false, false, false, false, false, false, false, false, false, false] rfl rfl (take_ofW HT_.out HW_.out (by kernel_rfl)) (fun _ _ _ h => h) (Or.inl ⟨by rfl, ?_⟩) hHeld ?_ ?_
        rotate_left
        · rintro w' ⟨s0, s1, s2, s3, s4⟩
          go_simp
          with_reducible rfl
        rotate_left
        · simp only [Act.put, List.setIfInBounds_toArray, List.set_cons_zero, List.set_cons_succ, i64_w, i32_w]
          rfl
        refine pure_ (i := 15) (N := some 32) (v := ?_) (a' := ?_) #[true, true, true, true, true, true, true, true, true, true, true, true, true, true, true, true, false, false, false, false, false, false, false, false, false, false, false, false] rfl rfl (any_of HT_.out (by kernel_rfl)) (fun _ _ _ h => h) (Or.inl ⟨by rfl, ?_⟩) ?_ ?_
        rotate_left
        · intro w'
          go_simp
          with_reducible rfl
        rotate_left
        · simp only [Act.put, List.setIfInBounds_toArray, List.set_cons_zero, List.set_cons_succ, i64_w, i32_w]
          rfl
        refine take_ (i := 16) (N := some 33) (v := ?_) (a' := ?_) #[true, true, true, true, true, true, true, true, true, true, true, true, true, true, true, true, true, false, false, false, false, false, false, false, false, false, false, false] rfl rfl (take_ofW HT_.out HW_.out (by kernel_rfl)) (fun _ _ _ h => h) (Or.inl ⟨by rfl, ?_⟩) hHeld ?_ ?_
        rotate_left
        · rintro w' ⟨s0, s1, s2, s3, s4⟩
          go_simp
          with_reducible rfl
        rotate_left
        · simp only [Act.put, List.setIfInBounds_toArray, List.set_cons_zero, List.set_cons_succ, i64_w, i32_w]
          rfl
        refine take_ (i := 17) (N := some 34) (v := ?_) (a' := ?_) #[true, true, true, true, true, true, true, true, true, true, true, true, true, true, true, true, true, true, false, false, false, false, false, false, false, false, false, false] rfl rfl (take_ofW HT_.out HW_.out (by kernel_rfl)) (fun _ _ _ h => h) (Or.inl ⟨by rfl, ?_⟩) hHeld ?_ ?_
        rotate_left
        · rintro w' ⟨s0, s1, s2, s3, s4⟩
          go_simp
          with_reducible rfl
        rotate_left
        · simp only [Act.put, List.setIfInBounds_toArray, List.set_cons_zero, List.set_cons_succ, i64_w, i32_w]
          rfl
        refine pure_ (i := 18) (N := some 35) (v := ?_) (a' := ?_) #[true, true, true, true, true, true, true, true, true, true, true, true, true, true, true, true, true, true, true, false, false, false, false, false, false, false, false, false] rfl rfl (any_of HT_.out (by kernel_rfl)) (fun _ _ _ h => h) (Or.inl ⟨by rfl, ?_⟩) ?_ ?_
        rotate_left
        · intro w'
          go_simp
          with_reducible rfl
        rotate_left
        · simp only [Act.put, List.setIfInBounds_toArray, List.set_cons_zero, List.set_cons_succ, i64_w, i32_w]
          rfl
        refine pure_ (i := 19) (N := some 36) (v := ?_) (a' := ?_) #[true, true, true, true, true, true, true, true, true, true, true, true, true, true, true, true, true, true, true, true, false, false, false, false, false, false, false, false] rfl rfl (any_of HT_.out (by kernel_rfl)) (fun _ _ _ h => h) (Or.inl ⟨by rfl, ?_⟩) ?_ ?_
        rotate_left
        · intro w'
          go_simp
          with_reducible rfl
        rotate_left
        · simp only [Act.put, List.setIfInBounds_toArray, List.set_cons_zero, List.set_cons_succ, i64_w, i32_w]
          rfl
        refine take_ (i := 20) (N := some 37) (v := ?_) (a' := ?_) #[true, true, true, true, true, true, true, true, true, true, true, true, true, true, true, true, true, true, true, true, true, false, false, false, false, false, false, false] rfl rfl (take_ofW HT_.out HW_.out (by kernel_rfl)) (fun _ _ _ h => h) (Or.inl ⟨by rfl, ?_⟩) hHeld ?_ ?_
        rotate_left
        · rintro w' ⟨s0, s1, s2, s3, s4⟩
          go_simp
          with_reducible rfl
        rotate_left
        · simp only [Act.put, List.setIfInBounds_toArray, List.set_cons_zero, List.set_cons_succ, i64_w, i32_w]
          rfl
        refine take_ (i := 21) (N := some 38) (v := ?_) (a' := ?_) #[true, true, true, true, true, true, true, true, true, true, true, true, true, true, true, true, true, true, true, true, true, true, false, false, false, false, false, false] rfl rfl (take_ofW HT_.out HW_.out (by kernel_rfl)) (fun _ _ _ h => h) (Or.inl ⟨by rfl, ?_⟩) hHeld ?_ ?_
        rotate_left
        · rintro w' ⟨s0, s1, s2, s3, s4⟩
          go_simp
          with_reducible rfl
        rotate_left
        · simp only [Act.put, List.setIfInBounds_toArray, List.set_cons_zero, List.set_cons_succ, i64_w, i32_w]
          rfl
        refine pure_ (i := 22) (N := some 39) (v := ?_) (a' := ?_) #[true, true, true, true, true, true, true, true, true, true, true, true, true, true, true, true, true, true, true, true, true, true, true, false, false, false, false, false] rfl rfl (any_of HT_.out (by kernel_rfl)) (fun _ _ _ h => h) (Or.inl ⟨by rfl, ?_⟩) ?_ ?_
        rotate_left
        · intro w'
          go_simp
          with_reducible rfl
        rotate_left
        · simp only [Act.put, List.setIfInBounds_toArray, List.set_cons_zero, List.set_cons_succ, i64_w, i32_w]
          rfl
        refine take_ (i := 23) (N := some 40) (v := ?_) (a' := ?_) #[true, true, true, true, true, true, true, true, true, true, true, true, true, true, true, true, true, true, true, true, true, true, true, true, false, false, false, false] rfl rfl (take_ofW HT_.out HW_.out (by kernel_rfl)) (fun _ _ _ h => h) (Or.inl ⟨by rfl, ?_⟩) hHeld ?_ ?_
        rotate_left
        · rintro w' ⟨s0, s1, s2, s3, s4⟩
          go_simp
          with_reducible rfl
        rotate_left
        · simp only [Act.put, List.setIfInBounds_toArray, List.set_cons_zero, List.set_cons_succ, i64_w, i32_w]
          rfl
        refine pure_ (i := 24) (N := some 41) (v := ?_) (a' := ?_) #[true, true, true, true, true, true, true, true, true, true, true, true, true, true, true, true, true, true, true, true, true, true, true, true, true, false, false, false] rfl rfl (any_of HT_.out (by kernel_rfl)) (fun _ _ _ h => h) (Or.inl ⟨by rfl, ?_⟩) ?_ ?_
        rotate_left
        · intro w'
          go_simp
          with_reducible rfl
        rotate_left
        · simp only [Act.put, List.setIfInBounds_toArray, List.set_cons_zero, List.set_cons_succ, i64_w, i32_w]
          rfl
        refine last_ (i := 25) (N := none) #[true, true, true, true, true, true, true, true, true, true, true, true, true, true, true, true, true, true, true, true, true, true, true, true, true, true, false, false] rfl rfl (one_of HT_.out (by kernel_rfl)) (by decide) (fun K hK => ?_)
        refine skip_ (w1 := ?_) (by rfl) rfl ?_ ?_
        rotate_left
        · go_simp
          rfl
        refine hK.out _ _ ?_
        clear hK K
        refine pure_ (i := 26) (N := some 42) (v := ?_) (a' := ?_) #[true, true, true, true, true, true, true, true, true, true, true, true, true, true, true, true, true, true, true, true, true, true, true, true, true, true, true, false] rfl rfl (any_of HT_.out (by kernel_rfl)) (fun _ _ _ h => h) (Or.inl ⟨by rfl, ?_⟩) ?_ ?_
        rotate_left
        · intro w'
          go_simp
          with_reducible rfl
        rotate_left
        · simp only [Act.put, List.setIfInBounds_toArray, List.set_cons_zero, List.set_cons_succ, i64_w, i32_w]
          rfl
        have hx2 : (W1.setCell ⟨gr, piv.length, none⟩ (.slice Ak nk ck)).cell? ⟨gr, k, none⟩ = some (.slice Ak nk ck) := by
          by_cases e : piv.length = k
          · subst e
            exact World.cell?_setCell_same' W1 _ _ (by rw [hHeld.2.2.2.1]; rfl)
          · exact (World.cell?_setCell_other W1 _ _ _ (by intro h; injection h with h1 h2; exact e h2)).trans hHeld.2.2.2.1
        refine last_ (i := 27) (N := none) #[true, true, true, true, true, true, true, true, true, true, true, true, true, true, true, true, true, true, true, true, true, true, true, true, true, true, true, true] rfl rfl (one_of HT_.out (by kernel_rfl)) (by decide) (fun K hK => ?_)
        refine skip_ (w1 := ?_) (by rfl) rfl ?_ ?_
        rotate_left
        · go_simp
          rfl
        refine hK.out _ _ ?_
        clear hK K
        refine done_ (done_of HT_.out (by kernel_rfl)) ?_
        have HC2 := Aside0.mk (HC.out.swap HL1.out HL2.out hHeld.2.2.2.2 hHeld.2.2.2.1)
        clear HC hfp hfk hHeld hx2
        generalize ((W1.setCell ⟨gr, piv.length, none⟩ (.slice Ak nk ck)).setCell ⟨gr, k, none⟩ (.slice Ap np cp)) = W2 at HC2 ⊢
        clear W1
        have HRS := Aside0.mk (swapRows_rows HR.out HL1.out HL2.out)
        have HSS := Aside0.mk (show elimStep (Rj, piv, det) j = (clearRows (scaleRow (swapRows Rj piv.length k) piv.length j) piv.length j, piv ++ [j], gmul det (((swapRows Rj piv.length k).getD piv.length []).getD j 0)) by unfold elimStep; simp only []; rw [HFE.out])
        have HSL := Aside0.mk (swapRows_length Rj piv.length k)
        generalize swapRows Rj piv.length k = R1 at HC2 HRS HSS HSL
        have HR1 := Aside0.mk (show piv.length < R1.length by rw [HSL.out]; exact HL1.out)
        have HRL := Aside0.mk (HRS.out _ (getD_mem' (l := R1) (i := piv.length) HR1.out))
        have HS2 := Aside0.mk (scaleRow_rows HRS.out j HR1.out)
        have HN1 := Aside0.mk (show R1.length ≤ 64 by rw [HSL.out, show Rj.length = R.length from HL.out]; exact hn)
        have hxb := HC2.out.boxc
        have hxr := HC2.out.rowc
        have hxc := HC2.out.colc
        go_wp2_with (first | (go_at_call 103; (with_reducible refine (escale_calls HC2.out.elim piv.length j HR1.out (by rw [HRL.out]; omega) (by rw [HRL.out]; omega) (by have := HN1.out; omega)).mono ?_); rintro e w7 ⟨rfl, hE7, hF7⟩; have HC3 := Aside0.mk (HC2.out.framed hE7 hF7); clear hE7 hF7 hxb hxr hxc; have hxb := HC3.out.boxc; have hxr := HC3.out.rowc; have hxc := HC3.out.colc) | (go_at_call 104; (with_reducible refine (eclear_calls HC3.out.elim piv.length j (by rw [scaleRow_length]; exact HR1.out) HS2.out (by omega) (by omega) (by rw [scaleRow_length]; have := HN1.out; omega)).mono ?_); rintro e w8 ⟨rfl, hE8, hF8⟩; have HC4 := Aside0.mk (HC3.out.framed hE8 hF8); clear hE8 hF8 hxb hxr hxc; have hxb := HC4.out.boxc; have hxr := HC4.out.rowc; have hxc := HC4.out.colc))
        clear HC2 HC3 w7
        obtain ⟨vq, hxv, hRv⟩ := HC4.out.elim.piv'
        obtain ⟨Aq, cq, rfl⟩ := Kd.R_slice hRv
        have HRV := Aside0.mk hRv
        have hpl : piv.length ≤ 64 := by have := HR1.out; have := HN1.out; omega
        clear hRv hxr
        have hfx1 := HC4.out.elim.cells.2.2 1
        refine start_ (n := 11) (S := fun w' => w'.cell? ⟨gbx, 0, none⟩ = some (.pointer (some ⟨gx, 0, none⟩)) ∧ w'.cell? ⟨gx, 1, none⟩ = some (.slice Aq (natInts piv).length cq) ∧ w'.cell? ⟨gcol, 0, none⟩ = some (.int .i64 (j : Int))) (ds := [10]) #[false, false, false, false, false, false, false, false, false, false, false] (by kernel_rfl) rfl rfl ⟨hxb, hxv, hxc⟩ (fun hHeld => ?_)
        refine with_tabW f87.tab11 f87.bits11 (fun HT_ HW_ => ?_)
        have HC5 := Aside0.mk HC4.out.drew
        replace HRV := Aside0.mk (Kd.R_below HRV.out (below_drew (Below.refl _ _)))
        have HXV := Aside0.mk hHeld.2.1
        replace hfx1 : w8.drew.frozen? ⟨gx, 1, none⟩ = false := hfx1
        clear hxb hxv hxc
        generalize w8.drew = W3 at HC5 HRV HXV hHeld hfx1 ⊢
        refine take_ (i := 0) (N := some 51) (v := ?_) (a' := ?_) #[true, false, false, false, false, false, false, false, false, false, false] rfl rfl (take_ofW HT_.out HW_.out (by kernel_rfl)) (fun _ _ _ h => h) (Or.inl ⟨by rfl, ?_⟩) hHeld ?_ ?_
        rotate_left
        · rintro w' ⟨s0, s1, s2⟩
          go_simp
          with_reducible rfl
        rotate_left
        · simp only [Act.put, List.setIfInBounds_toArray, List.set_cons_zero, List.set_cons_succ, i64_w, i32_w]
          rfl
        refine take_ (i := 1) (N := some 52) (v := ?_) (a' := ?_) #[true, true, false, false, false, false, false, false, false, false, false] rfl rfl (take_ofW HT_.out HW_.out (by kernel_rfl)) (fun _ _ _ h => h) (Or.inl ⟨by rfl, ?_⟩) hHeld ?_ ?_
        rotate_left
        · rintro w' ⟨s0, s1, s2⟩
          go_simp
          with_reducible rfl
        rotate_left
        · simp only [Act.put, List.setIfInBounds_toArray, List.set_cons_zero, List.set_cons_succ, i64_w, i32_w]
          rfl
        refine pure_ (i := 2) (N := some 53) (v := ?_) (a' := ?_) #[true, true, true, false, false, false, false, false, false, false, false] rfl rfl (any_of HT_.out (by kernel_rfl)) (fun _ _ _ h => h) (Or.inl ⟨by rfl, ?_⟩) ?_ ?_
        rotate_left
        · intro w'
          go_simp
          with_reducible rfl
        rotate_left
        · simp only [Act.put, List.setIfInBounds_toArray, List.set_cons_zero, List.set_cons_succ, i64_w, i32_w]
          rfl
        refine pure_ (i := 3) (N := some 54) (v := ?_) (a' := ?_) #[true, true, true, true, false, false, false, false, false, false, false] rfl rfl (any_of HT_.out (by kernel_rfl)) (fun _ _ _ h => h) (Or.inl ⟨by rfl, ?_⟩) ?_ ?_
        rotate_left
        · intro w'
          go_simp
          with_reducible rfl
        rotate_left
        · simp only [Act.put, List.setIfInBounds_toArray, List.set_cons_zero, List.set_cons_succ, i64_w, i32_w]
          rfl
        refine take_ (i := 4) (N := some 55) (v := ?_) (a' := ?_) #[true, true, true, true, true, false, false, false, false, false, false] rfl rfl (take_ofW HT_.out HW_.out (by kernel_rfl)) (fun _ _ _ h => h) (Or.inl ⟨by rfl, ?_⟩) hHeld ?_ ?_
        rotate_left
        · rintro w' ⟨s0, s1, s2⟩
          go_simp
          with_reducible rfl
        rotate_left
        · simp only [Act.put, List.setIfInBounds_toArray, List.set_cons_zero, List.set_cons_succ, i64_w, i32_w]
          rfl
        refine take_ (i := 5) (N := some 56) (v := ?_) (a' := ?_) #[true, true, true, true, true, true, false, false, false, false, false] rfl rfl (take_ofW HT_.out HW_.out (by kernel_rfl)) (fun _ _ _ h => h) (Or.inl ⟨by rfl, ?_⟩) hHeld ?_ ?_
        rotate_left
        · rintro w' ⟨s0, s1, s2⟩
          go_simp
          with_reducible rfl
        rotate_left
        · simp only [Act.put, List.setIfInBounds_toArray, List.set_cons_zero, List.set_cons_succ, i64_w, i32_w]
          rfl
        refine one_ (i := 6) (N := some 57) #[true, true, true, true, true, true, true, false, false, false, false] rfl rfl (one_of HT_.out (by kernel_rfl)) (by decide) (fun K hK => ?_)
        refine event_step (v := .slice (some ⟨W3.heap.size, 0, none⟩) 1 1) (w1 := W3.alloc (.cells #[.int .i64 (j : Int)] 3 (0, 0))) (by rfl) (by first | (go_simp; done) | (go_simp; rfl)) ?_
        refine hK.out _ _ ⟨((below_alloc (Below.refl _ _) _).cell (blk_lt HC5.out.box)).trans hHeld.1, ((below_alloc (Below.refl _ _) _).cell HC5.out.elim.lt).trans hHeld.2.1, ((below_alloc (Below.refl _ _) _).cell (blk_lt HC5.out.col)).trans hHeld.2.2⟩ (fun hHeld => ?_)
        clear hK K
        refine norm_ (a' := ?_) ?_ ?_
        rotate_left
        · show Act.put _ (some 57) _ = _
          simp only [Act.put, List.setIfInBounds_toArray, List.set_cons_zero, List.set_cons_succ, i64_w, i32_w]
          rfl
        refine one_ (i := 7) (N := some 58) #[true, true, true, true, true, true, true, true, false, false, false] rfl rfl (one_of HT_.out (by kernel_rfl)) (by decide) (fun K hK => ?_)
        refine Kd.R_append_step (Kd.int .i64) (w0 := W3) base (by rfl) (.tmp 55) (.tmp 57) 29 3 (.int .i64 0) 8 rfl rfl rfl rfl (by decide) (by decide) (.slice Aq (natInts piv).length cq) (natInts piv) (j : Int) [.int .i64 (j : Int)] (fun k => ¬ colX gbx grow gcol k ∧ k ≠ gx ∧ k ≠ gr) (fun _ => False) rfl rfl rfl (fun _ hk => hk.elim) (fun k hk => ?hfresh) HRV.out (Below.refl _ _) ?hbase ?hlen ?_
        case hfresh => have h1 := blk_lt HC5.out.box; have h2 := blk_lt HC5.out.row; have h3 := blk_lt HC5.out.col; have h4 := HC5.out.elim.lt; have h5 := HC5.out.elim.ltr; exact ⟨by rintro (((h | h) | h) | h) <;> omega, by omega, by omega⟩
        case hbase => have h1 := blk_lt HC5.out.box; have h2 := HC5.out.base2; omega
        case hlen => rw [natInts, List.length_map]; omega
        intro v4 W4 hR6 hB6 hG6 hO6
        obtain ⟨A4, c4, rfl⟩ := Kd.R_slice hR6
        generalize (natInts piv ++ [(j : Int)]).length = n4 at *
        have HR6 := Aside0.mk hR6
        have HB6 := Aside0.mk hB6
        have HG6 := Aside0.mk hG6
        have HN6 := Aside0.mk (HC5.out.append HXV.out hR6 hG6 (HC5.out.below.trans hB6))
        clear hR6 hB6 hG6 hO6
        have hne : ∀ g, colX gbx grow gcol g ∨ g = gx → some g ≠ (Value.slice Aq (natInts piv).length cq).ownBlock := fun g hg e => hg.elim (fun h => (HRV.out.1 g e.symm).1 h) (fun h => (HRV.out.1 g e.symm).2.1 h)
        have hq1 := blk_grown HC5.out.box HG6.out (hne _ (.inl (.inl (.inl (.inr rfl)))))
        have hq2 := blk_grown HC5.out.col HG6.out (hne _ (.inl (.inr rfl)))
        have hq3 := (HG6.out.block gx HC5.out.elim.lt (hne _ (.inr rfl)))
        replace hfx1 : W4.frozen? ⟨gx, 1, none⟩ = false := by rw [← hfx1]; unfold World.frozen?; rw [hq3]
        refine hK.out _ _ ⟨by rw [blk_cell hq1]; rfl, (World.cell?_of_block hq3).trans HXV.out, by rw [blk_cell hq2]; rfl⟩ (fun hHeld => ?_)
        clear hne hq1 hq2 hq3
        clear hK K
        refine norm_ (a' := ?_) ?_ ?_
        rotate_left
        · show Act.put _ (some 58) _ = _
          simp only [Act.put, List.setIfInBounds_toArray, List.set_cons_zero, List.set_cons_succ, i64_w, i32_w]
          rfl
        refine pure_ (i := 8) (N := some 59) (v := ?_) (a' := ?_) #[true, true, true, true, true, true, true, true, true, false, false] rfl rfl (any_of HT_.out (by kernel_rfl)) (fun _ _ _ h => h) (Or.inl ⟨by rfl, ?_⟩) ?_ ?_
        rotate_left
        · intro w'
          go_simp
          with_reducible rfl
        rotate_left
        · simp only [Act.put, List.setIfInBounds_toArray, List.set_cons_zero, List.set_cons_succ, i64_w, i32_w]
          rfl
        refine pure_ (i := 9) (N := some 60) (v := ?_) (a' := ?_) #[true, true, true, true, true, true, true, true, true, true, false] rfl rfl (any_of HT_.out (by kernel_rfl)) (fun _ _ _ h => h) (Or.inl ⟨by rfl, ?_⟩) ?_ ?_
        rotate_left
        · intro w'
          go_simp
          with_reducible rfl
        rotate_left
        · simp only [Act.put, List.setIfInBounds_toArray, List.set_cons_zero, List.set_cons_succ, i64_w, i32_w]
          rfl
        refine last_ (i := 10) (N := none) #[true, true, true, true, true, true, true, true, true, true, true] rfl rfl (one_of HT_.out (by kernel_rfl)) (by decide) (fun K hK => ?_)
        refine skip_ (w1 := ?_) (by rfl) rfl ?_ ?_
        rotate_left
        · go_simp
          rfl
        refine hK.out _ _ ?_
        clear hK K
        refine done_ (done_of HT_.out (by kernel_rfl)) ?_
        have HC6 := HN6
        clear HC4 HC5 HR6 HG6 HXV HRV HB6 HN6 hHeld hfx1
        generalize (W4.setCell ⟨gx, 1, none⟩ (.slice A4 n4 c4)) = W5 at HC6 ⊢
        clear W4
        have hxr := HC6.out.rowc
        have hfr := HC6.out.rowf
        have hl4 : (clearRows (scaleRow R1 piv.length j) piv.length j).length = R.length := by rw [clearRows_length, scaleRow_length, HSL.out]; exact HL.out
        have HX5 := Aside0.mk hl4
        clear hl4
        go_wp2
        have HC7 : Aside0 (ColSt w0 (W5.setCell ⟨grow, 0, none⟩ (.int .i64 ((piv.length : Int) + 1))) base gx gr c gbx grow gcol j (piv ++ [j]).length (clearRows (scaleRow R1 piv.length j) piv.length j) (natInts (piv ++ [j])) (gmul det (((R1).getD piv.length []).getD j 0))) := by
          have h := HC6.out.inc (piv.length + 1)
          have e : natInts piv ++ [(j : Int)] = natInts (piv ++ [j]) := by simp [natInts]
          have e2 : (piv ++ [j]).length = piv.length + 1 := by simp
          rw [e] at h
          rw [e2]
          exact ⟨h⟩
        clear hxr hfr HC6
        generalize (W5.setCell ⟨grow, 0, none⟩ (.int .i64 ((piv.length : Int) + 1))) = W6 at HC7 ⊢
        clear W5
        have hxr : W6.cell? ⟨grow, 0, none⟩ = some (.int .i64 ((piv.length : Int) + 1)) := by
          have := HC7.out.rowc
          rw [this]; simp
        have hxb := HC7.out.boxc
        have hx0 := HC7.out.elim.cells.1
        rw [HX5.out] at hx0
        have HRS1 : Aside0 (∀ w, ColSt w0 w base gx gr c gbx grow gcol j (piv ++ [j]).length (clearRows (scaleRow R1 piv.length j) piv.length j) (natInts (piv ++ [j])) (gmul det (((R1).getD piv.length []).getD j 0)) → RunSt w0 w base gx gr c gbx grow (elimRun R (j + 1))) := ⟨fun w h => by rw [HS.out, HSS.out]; exact h.run⟩
        have HFU : Aside0 (piv.length + 1 = R.length → elimRun R cols = elimRun R (j + 1)) := ⟨fun e => by
          have := elimRun_full (R := R) (n := j + 1) (by rw [HS.out, HSS.out]; simp; omega) (cols - (j + 1))
          rw [← this]; congr 1; omega⟩
        clear HRS HSS HSL HR1 HRL HS2 HN1 HX5 HS HFI HFE HK HL1 HL2
        by_cases hfull : piv.length + 1 = R.length
        · have ht : (((piv.length : Int) + 1) == (R.length : Int)) = true := by rw [beq_iff_eq]; omega
          have HFU2 := Aside0.mk (HFU.out hfull)
          clear hfull HFU
          go_wp2
          go_quiet (fail)
          go_wp2
          unfold Exit.noGoto
          go_end0
          have hF := HRS1.out _ (HC7.out.drewN nq)
          rw [← HFU2.out] at hF
          exact ⟨rfl, hF.elim.weaken (fun _ (hk : False) => hk.elim), hF.below⟩
        · have ht : (((piv.length : Int) + 1) == (R.length : Int)) = false := by rw [beq_eq_false_iff_ne]; omega
          clear hfull HFU
          go_wp2
          go_quiet (fail)
          go_wp2
          go_roundw
          case rel => exact ⟨j + 1, by omega, by go_num, ⟨HRS1.out _ (HC7.out.drewN nq)⟩⟩
          case measure => simp [intOf]; omega
    · obtain rfl : j = cols := by omega
      go_wp2
      unfold Exit.noGoto
      go_end0
      exact ⟨rfl, HA.out.elim.weaken (fun _ (hk : False) => hk.elim), HA.out.below⟩
end Go.Proofs.Ytpkghpljgjlmjaa.K
/- The elimination of package matrix: the walk of eliminate. -/
namespace Go.Proofs.Ytpkghpljgjlmjaa.K
open Go.RowKit Go.Proofs.YtpkghpljgjlmjaaW.PrintWords Go.Proofs.YtpkghpljgjlmjaaW.PrintLast Go.Proofs.YtpkghpljgjlmjaaW.PrintMore Kin
set_option linter.unusedVariables false
set_option linter.unusedSimpArgs false
/-- What an elimination has come to, at block gx. -/
structure ElimOut (w : World) (base gx : Nat) (s : ES) : Prop where
  out : ∃ vr vp, w.heap[gx]? = some (.cells #[vr, vp, .int .u8 (b2i s.2.2)] 80 (0, 0)) ∧ Kd.S D 34 w base (fun _ => True) vr (up2 s.1) ∧ Kd.R (Kd.int .i64) 3 w base (fun _ => True) vp (natInts s.2.1)
theorem Elim.toOut {w : World} {base gx gr c : Nat} {X : Nat → Prop} {s : ES} (h : Elim w base gx gr c X s.1 (natInts s.2.1) s.2.2) : ElimOut w base gx s := by
  obtain ⟨vp, hg, hp⟩ := h.piv
  exact ⟨⟨_, vp, hg, h.rows, Kd.R_mono hp (fun _ _ => trivial)⟩⟩
set_option maxRecDepth 100000 in
set_option maxHeartbeats 2000000 in
theorem run_zero (w : World) (p : Option Addr) : Calls Try.prog 87 #[.pointer p, .int .i64 0] w fun e w' => e = .returned (.tuple #[]) ∧ Below w.heap.size w w' := by
  have HBB := Aside0.mk (Below.refl w.heap.size w)
  go_enter Try.func87, Try.ntmps87
  go_wp2_with (first | ((with_reducible refine gate_dst (N := 2) rfl ?_); refine box_event rfl (N := 2) rfl (cs := #[.pointer p]) (t := 77) ?hrun ?_; (case hrun => first | (go_simp; done) | (go_simp; rfl)); intro gbx hgb w1 hb1 hB1; have HG1 := Aside0.mk hgb; have HB1 := Aside0.mk hB1; clear hgb hb1 hB1) | ((with_reducible refine gate_dst (N := 4) rfl ?_); refine box_event rfl (N := 4) rfl (cs := #[.int .i64 0]) (t := 3) ?hrun ?_; (case hrun => first | (go_simp; done) | (go_simp; rfl)); intro grow hgr w2 hb2 hB2; have HG2 := Aside0.mk hgr; have HB2 := Aside0.mk hB2; have hxr := blk_cell hb2 0; have hfr := blk_frozen hb2 0; clear hgr hb2 hB2))
  go_frame
  go_step3
  go_wp2_with (first | ((with_reducible refine gate_dst (N := 2) rfl ?_); refine box_event rfl (N := 2) rfl (cs := #[.pointer p]) (t := 77) ?hrun ?_; (case hrun => first | (go_simp; done) | (go_simp; rfl)); intro gbx hgb w1 hb1 hB1; have HG1 := Aside0.mk hgb; have HB1 := Aside0.mk hB1; clear hgb hb1 hB1) | ((with_reducible refine gate_dst (N := 4) rfl ?_); refine box_event rfl (N := 4) rfl (cs := #[.int .i64 0]) (t := 3) ?hrun ?_; (case hrun => first | (go_simp; done) | (go_simp; rfl)); intro grow hgr w2 hb2 hB2; have HG2 := Aside0.mk hgr; have HB2 := Aside0.mk hB2; have hxr := blk_cell hb2 0; have hfr := blk_frozen hb2 0; clear hgr hb2 hB2))
  go_step3
  go_wp2_with (first | ((with_reducible refine gate_dst (N := 2) rfl ?_); refine box_event rfl (N := 2) rfl (cs := #[.pointer p]) (t := 77) ?hrun ?_; (case hrun => first | (go_simp; done) | (go_simp; rfl)); intro gbx hgb w1 hb1 hB1; have HG1 := Aside0.mk hgb; have HB1 := Aside0.mk hB1; clear hgb hb1 hB1) | ((with_reducible refine gate_dst (N := 4) rfl ?_); refine box_event rfl (N := 4) rfl (cs := #[.int .i64 0]) (t := 3) ?hrun ?_; (case hrun => first | (go_simp; done) | (go_simp; rfl)); intro grow hgr w2 hb2 hB2; have HG2 := Aside0.mk hgr; have HB2 := Aside0.mk hB2; have hxr := blk_cell hb2 0; have hfr := blk_frozen hb2 0; clear hgr hb2 hB2))
  have HB := Aside0.mk (((HB1.out.trans (HB2.out.mono HB1.out.size))).setCell (p := ⟨grow, 0, none⟩) (by show w.heap.size ≤ grow; rw [HG2.out]; exact HB1.out.size) (.int .i64 0))
  clear hxr hfr HG1 HB1 HG2 HB2
  generalize (w2.setCell ⟨grow, 0, none⟩ (.int .i64 0)) = W0 at HB ⊢
  clear w1 w2
  go_loopw [9] (fun v9 wr => v9 = .int .i64 0 ∧ Aside0 (Below w.heap.size w wr)) (fun v9 _ => 0)
  case atStart => exact ⟨rfl, HB⟩
  case round =>
    obtain ⟨rfl, HA⟩ := hrel
    go_wp2
    unfold Exit.noGoto
    go_end0
    exact ⟨rfl, HA.out⟩
theorem run_any {w0 w4 w5 : World} {base gx c4 cols m : Nat} {A4 : Option Addr} {R : List (List B)} (hS : Kd.S D 34 w4 base (fun _ => True) (.slice A4 (up2 R).length c4) (up2 R)) (hg : gx = w4.heap.size)
    (hb : w5.heap[gx]? = some (.cells #[.slice A4 (up2 R).length c4, .slice none 0 0, .int .u8 1] 80 (0, 0))) (hB : Below w4.heap.size w4 w5) (hB0 : Below base w0 w4) (hbase : base ≤ w4.heap.size)
    (hm : ∀ r ∈ R, r.length = m) (hcols : cols ≤ m) (hlim : m ≤ 1000) (hn : R.length ≤ 64) (h0 : R = [] → cols = 0) :
    Calls Try.prog 87 #[.pointer (some ⟨gx, 0, none⟩), .int .i64 (cols : Int)] w5 fun e w' => e = .returned (.tuple #[]) ∧ ElimOut w' base gx (elimRun R cols) ∧ Below base w0 w' := by
  have hB5 : Below base w0 w5 := hB0.trans (hB.mono hbase)
  have hS5 := Kd.S_below hS hB
  by_cases hR : R = []
  · obtain rfl := h0 hR
    subst hR
    refine (run_zero w5 _).mono ?_
    rintro e w' ⟨rfl, hb'⟩
    refine ⟨rfl, ⟨_, .slice none 0 0, (hb'.block _ (blk_lt hb)).trans hb, Kd.S_below hS5 hb', Kd.R_nil _ _ _ _ _⟩, hB5.trans (hb'.mono ?_)⟩
    have := hB.size
    omega
  · obtain ⟨inner, ho⟩ := Kd.S_own hS
    have hl : 0 < (up2 R).length := by
      rw [up2_length]
      exact List.length_pos_iff.2 hR
    obtain ⟨gr, rfl⟩ : ∃ gr, A4 = some ⟨gr, 0, none⟩ := by
      rcases ho.2 with ⟨e, e2⟩ | ⟨g, cap, cur, e, _⟩
      · injection e with e1 e2 e3
        omega
      · injection e with e1 e2 e3
        exact ⟨g, e1⟩
    have hgr := Kd.S_lt hS gr rfl
    have hbr := Kd.S_base hS gr rfl
    rw [up2_length] at hb hS5
    have hE : Elim w5 base gx gr c4 (fun _ => False) R [] 1 := ⟨⟨_, hb, Kd.R_nil _ _ _ _ _⟩, hS5, by omega, by omega, by omega⟩
    refine (run_calls hE hB5 cols hm hcols hlim hn).mono ?_
    rintro e w' ⟨rfl, hE', hB'⟩
    exact ⟨rfl, hE'.toOut, hB'⟩
set_option maxRecDepth 100000 in
set_option maxHeartbeats 2000000 in
theorem eliminate_calls (A0 : Option Addr) (c0 : Nat) (R : List (List B)) (cols m : Nat) (w : World) (hr0 : Kd.C (Kd.slice 5 (Kd.int .u8)) w A0 (up2 R).length (up2 R)) (hc0 : (up2 R).length ≤ c0) (hm : ∀ r ∈ R, r.length = m) (hcols : cols ≤ m) (hlim : m ≤ 1000) (hn : R.length ≤ 64) (h0 : R = [] → cols = 0) :
    Calls Try.prog 62 #[.slice A0 (up2 R).length c0, .int .i64 (cols : Int)] w fun e w' => ∃ gx, e = .returned (.pointer (some ⟨gx, 0, none⟩)) ∧ ElimOut w' w.heap.size gx (elimRun R cols) ∧ Below w.heap.size w w' := by
  have HC := Aside0.mk (clone_eq (up2 R) (by rw [up2_length]; omega) (by
    intro x hx
    obtain ⟨r, hr, rfl⟩ := List.mem_map.1 hx
    rw [up_length, hm r hr]; omega) (k := R.length + 1) (by rw [up2_length]; omega))
  have HR0 := Aside0.mk hr0
  have HC0 := Aside0.mk hc0
  have HM := Aside0.mk hm
  clear hr0 hc0 hm
  go_enter Try.func62, Try.ntmps62
  go_wp2_with (first | (go_at_call 86; (with_reducible refine (matrix_clone.calls (R.length + 1) _ _ (up2 R) _ _ HR0.out HC0.out HC.out).mono ?_); rintro e w4 ⟨v4, rfl, hv4, hb4⟩; obtain ⟨A4, c4, rfl⟩ := Kd.R_slice (Kd.S_R hv4); have HV4 := Aside0.mk hv4; have HB4 := Aside0.mk hb4; clear hv4 hb4) | ((with_reducible refine gate_dst (N := 9) rfl ?_); refine box_event rfl (N := 9) rfl (cs := #[.slice A4 (up2 R).length c4, .slice none 0 0, .int .u8 1]) (t := 80) ?hrun ?_; (case hrun => first | (go_simp; done) | (go_simp; rfl)); intro gx hgx w5 hb5 hB5; have HG5 := Aside0.mk hgx; have HB5 := Aside0.mk hB5; have HK5 := Aside0.mk hb5; clear hgx hb5 hB5) | ((with_reducible refine (run_any HV4.out HG5.out HK5.out HB5.out HB4.out HB4.out.size HM.out hcols hlim hn h0).mono ?_); rintro e w6 ⟨rfl, hE6, hB6⟩; have HE6 := Aside0.mk hE6; have HB6 := Aside0.mk hB6; clear hE6 hB6))
  go_ret
  exact ⟨gx, rfl, HE6.out, HB6.out⟩
theorem eliminate_calls' {n : Nat} (A0 : Option Addr) (c0 : Nat) (R : List (List B)) (cols m : Nat) (w : World) (e : n = (up2 R).length) (hr0 : Kd.C (Kd.slice 5 (Kd.int .u8)) w A0 n (up2 R)) (hc0 : n ≤ c0) (hm : ∀ r ∈ R, r.length = m) (hcols : cols ≤ m) (hlim : m ≤ 1000) (hn : R.length ≤ 64) (h0 : R = [] → cols = 0) :
    Calls Try.prog 62 #[.slice A0 n c0, .int .i64 (cols : Int)] w fun e w' => ∃ gx, e = .returned (.pointer (some ⟨gx, 0, none⟩)) ∧ ElimOut w' w.heap.size gx (elimRun R cols) ∧ Below w.heap.size w w' := by
  subst e
  exact eliminate_calls A0 c0 R cols m w hr0 hc0 hm hcols hlim hn h0
end Go.Proofs.Ytpkghpljgjlmjaa.K
/- Reduce and Rank of package matrix: walks. -/
namespace Go.Proofs.Ytpkghpljgjlmjaa.K
open Go.RowKit Go.Proofs.YtpkghpljgjlmjaaW.PrintWords Go.Proofs.YtpkghpljgjlmjaaW.PrintLast Go.Proofs.YtpkghpljgjlmjaaW.PrintMore Kin
set_option linter.unusedVariables false
set_option linter.unusedSimpArgs false
def bytes2 (l : List (List Int)) : Bool := l.all (fun x => x.all isB)
theorem bytes2_up2 (M : List (List B)) : bytes2 (up2 M) = true := by
  simp only [bytes2, up2, List.all_map, List.all_eq_true]
  intro x _
  show (up x).all isB = true
  rw [List.all_eq_true]
  intro y hy
  obtain ⟨z, _, rfl⟩ := List.mem_map.1 hy
  exact isB_b2i z
theorem exists_bytes2 {l : List (List Int)} (h : bytes2 l = true) : ∃ M : List (List B), l = up2 M := by
  simp only [bytes2, List.all_eq_true] at h
  exact exists_up2 h
theorem validB_lim {α : Type} {M : List (List α)} (h : validB M = true) : M.length ≤ 64 ∧ colsN M ≤ 64 ∧ ∀ r ∈ M, r.length = colsN M := by
  simp only [validB, Bool.and_eq_true, decide_eq_true_eq, List.all_eq_true] at h
  exact ⟨h.1, h.2.1, h.2.2⟩
end Go.Proofs.Ytpkghpljgjlmjaa.K
/- reedsolomon.Encode: its contract. -/
namespace Go.Proofs.Ytpkghpljgjlmjaa.K
open Go.RowKit Go.Proofs.YtpkghpljgjlmjaaW.PrintWords Go.Proofs.YtpkghpljgjlmjaaW.PrintLast Go.Proofs.YtpkghpljgjlmjaaW.PrintMore Kin
set_option linter.unusedSimpArgs false
set_option linter.unusedVariables false
def rsOk (a0 a1 : Int) : Prop := 1 ≤ a0 ∧ a0 ≤ 8 ∧ a0 ≤ a1 ∧ a1 ≤ 16
instance (a0 a1 : Int) : Decidable (rsOk a0 a1) := by unfold rsOk; infer_instance
theorem rsvalid_ok (a0 a1 : Int) : reedsolomon_Valid.f a0 a1 = some (decide (rsOk a0 a1)) := rsvalid_eq a0 a1
set_option maxRecDepth 100000 in
set_option maxHeartbeats 2000000 in
theorem encode_bad (a0 a1 : Int) (l2 : List (List Int)) (A2 : Option Addr) (c2 : Nat) (w : World) (hb : ¬ (rsOk a0 a1 ∧ 1 ≤ l2.length ∧ (l2.length : Int) ≤ a0 ∧ levelB l2 = true)) (hr2 : Kd.C (Kd.slice 5 (Kd.int .u8)) w A2 l2.length l2) (hc2 : l2.length ≤ c2) :
    Calls Try.prog 39 #[.int .i64 a0, .int .i64 a1, .slice A2 l2.length c2] w fun e w' => ∃ v0_ : Value, e = .returned (.tuple #[v0_, .int .i64 1]) ∧ Kd.S (Kd.slice 5 (Kd.int .u8)) 34 w' w.heap.size (fun _ => True) v0_ [] ∧ Below w.heap.size w w' := by
  have HR := Aside0.mk hr2
  have HC := Aside0.mk hc2
  by_cases hv : rsOk a0 a1
  · have HV := Aside0.mk (show reedsolomon_Valid.f a0 a1 = some true by rw [rsvalid_ok, decide_eq_true hv])
    by_cases h1 : 1 ≤ l2.length
    · have b1 : decide ((l2.length : Int) < 1) = false := decide_eq_false (by omega)
      have b1' : decide (l2.length < 1) = false := decide_eq_false (by omega)
      by_cases h2 : (l2.length : Int) ≤ a0
      · have b2 : decide (a0 < (l2.length : Int)) = false := decide_eq_false (by omega)
        have HL := Aside0.mk (show reedsolomon_level.f l2 = some false by rw [reedsolomon_level.f]; congr 1; cases h : levelB l2 with | true => exact absurd ⟨hv, h1, h2, h⟩ hb | false => rfl)
        clear hb hv h1 h2 hr2 hc2
        go_enter Try.func39, Try.ntmps39
        go_wp2_with (first | (go_at_call 37; (with_reducible refine (reedsolomon_Valid.calls _ _ true _ HV.out).mono ?_); rintro e w1 ⟨rfl, ⟨n1, rfl⟩⟩) | (go_at_call 69; (with_reducible refine (reedsolomon_level.calls _ _ _ false _ (Kd.C_drewN HR.out n1) HC.out HL.out).mono ?_); rintro e w1b ⟨rfl, hb⟩; have HB1 := Aside0.mk ((pw_below_drewN (Below.refl w.heap.size w) n1).trans hb); clear hb))
        go_ret2
        exact ⟨_, rfl, Kd.S_nil _ _ _ _ _, HB1.out⟩
      · have b2 : decide (a0 < (l2.length : Int)) = true := decide_eq_true (by omega)
        clear hb hv h1 h2 hr2 hc2
        go_enter Try.func39, Try.ntmps39
        go_wp2_with (first | (go_at_call 37; (with_reducible refine (reedsolomon_Valid.calls _ _ true _ HV.out).mono ?_); rintro e w1 ⟨rfl, ⟨n1, rfl⟩⟩))
        go_ret2
        exact ⟨_, rfl, Kd.S_nil _ _ _ _ _, pw_below_drewN (Below.refl _ _) _⟩
    · have b1 : decide ((l2.length : Int) < 1) = true := decide_eq_true (by omega)
      have b1' : decide (l2.length < 1) = true := decide_eq_true (by omega)
      clear hb hv h1 hr2 hc2
      go_enter Try.func39, Try.ntmps39
      go_wp2_with (first | (go_at_call 37; (with_reducible refine (reedsolomon_Valid.calls _ _ true _ HV.out).mono ?_); rintro e w1 ⟨rfl, ⟨n1, rfl⟩⟩))
      go_ret2
      exact ⟨_, rfl, Kd.S_nil _ _ _ _ _, pw_below_drewN (Below.refl _ _) _⟩
  · have HV := Aside0.mk (show reedsolomon_Valid.f a0 a1 = some false by rw [rsvalid_ok, decide_eq_false hv])
    clear hb hv hr2 hc2
    go_enter Try.func39, Try.ntmps39
    go_wp2_with (first | (go_at_call 37; (with_reducible refine (reedsolomon_Valid.calls _ _ false _ HV.out).mono ?_); rintro e w1 ⟨rfl, ⟨n1, rfl⟩⟩))
    go_ret2
    exact ⟨_, rfl, Kd.S_nil _ _ _ _ _, pw_below_drewN (Below.refl _ _) _⟩
def encOk (a0 a1 : Int) (l2 : List (List Int)) : Prop := rsOk a0 a1 ∧ 1 ≤ l2.length ∧ (l2.length : Int) ≤ a0 ∧ levelB l2 = true
instance (a0 a1 : Int) (l2 : List (List Int)) : Decidable (encOk a0 a1 l2) := by unfold encOk; infer_instance
def reedsolomon_Encode.f (a0 a1 : Int) (l2 : List (List Int)) : Option (List (List Int) × Int) :=
  if encOk a0 a1 l2 then (if bytes2 l2 = true then some (up2 (encM a0.toNat (toB2 l2) a1.toNat), 0) else none) else some ([], 1)
theorem reedsolomon_Encode.calls (a0 : Int) (a1 : Int) (A2 : Option Addr) (c2 : Nat) (l2 : List (List Int)) (r1 : List (List Int)) (r2 : Int) (w : World) (hr2 : Kd.C (Kd.slice 5 (Kd.int .u8)) w A2 l2.length l2) (hc2 : l2.length ≤ c2) (h : reedsolomon_Encode.f a0 a1 l2 = some (r1, r2)) :
    Calls Try.prog 39 #[.int .i64 a0, .int .i64 a1, .slice A2 l2.length c2] w fun e w' => ∃ v0_ : Value, e = .returned (.tuple #[v0_, .int .i64 r2]) ∧ Kd.S (Kd.slice 5 (Kd.int .u8)) 34 w' w.heap.size (fun _ => True) v0_ r1 ∧ Below w.heap.size w w' := by
  unfold reedsolomon_Encode.f at h
  by_cases ho : encOk a0 a1 l2
  · rw [if_pos ho] at h
    split at h
    · rename_i hb
      obtain ⟨Bs, rfl⟩ := exists_bytes2 hb
      rw [toB2_up2] at h
      simp only [Option.some.injEq, Prod.mk.injEq] at h
      obtain ⟨rfl, rfl⟩ := h
      obtain ⟨⟨h1, h2, h3, h4⟩, h5, h6, h7⟩ := ho
      obtain ⟨d, rfl⟩ := Int.eq_ofNat_of_zero_le (show 0 ≤ a0 by omega)
      obtain ⟨t, rfl⟩ := Int.eq_ofNat_of_zero_le (show 0 ≤ a1 by omega)
      rw [Int.toNat_natCast, Int.toNat_natCast]
      rw [up2_length] at h5 h6
      exact encode_good d t Bs A2 c2 w (by omega) (by omega) (by omega) (by omega) h5 (by omega) h7 hr2 hc2
    · cases h
  · rw [if_neg ho] at h
    simp only [Option.some.injEq, Prod.mk.injEq] at h
    obtain ⟨rfl, rfl⟩ := h
    exact encode_bad a0 a1 l2 A2 c2 w ho hr2 hc2
end Go.Proofs.Ytpkghpljgjlmjaa.K
-- Lines of this claim, written by the session's own program kprint.py (it runs print.py).
namespace Go.Proofs.Ytpkghpljgjlmjaa.K
open Go.RowKit Go.Proofs.YtpkghpljgjlmjaaW.PrintWords Go.Proofs.YtpkghpljgjlmjaaW.PrintLast Go.Proofs.YtpkghpljgjlmjaaW.PrintMore
attribute [local go_sem] max2_int min2_int max_two min_two max_three min_three max_four min_four   -- for this text's walks alone
set_option linter.unusedVariables false
set_option linter.unusedSimpArgs false







def rd_L2 (xs : List (List Int)) (i : Int) : (List Int) := xs.getD i.toNat ([] : List Int)
theorem at_L2 {w : World} {A : Option Addr} {n : Nat} {xs : List (List Int)} (h : Kd.C (Kd.slice 5 (Kd.int .u8)) w A n xs) (i : Int) (h0 : 0 ≤ i) (h1 : i < n) : ∃ ad A0 c0, A = some ad ∧ w.cell? (ad.add i.toNat) = some (.slice A0 (rd_L2 xs i).length c0) ∧ (rd_L2 xs i).length ≤ c0 ∧ (Kd.int .u8).C w A0 (rd_L2 xs i).length (rd_L2 xs i) := by
  obtain ⟨ad, c, e, _, hK, hc0⟩ := Kd.C_get h ([] : List Int) i h0 h1
  have hc : ∀ j u, c[j]? = some u → w.cell? (ad.add (i.toNat * 1 + j)) = some u := hc0
  obtain ⟨A0, c0, rfl, l0, g0⟩ := hK
  exact ⟨ad, A0, c0, e, by have hq := hc 0 _ rfl; rwa [Nat.mul_one, Nat.add_zero] at hq, l0, g0⟩
end Go.Proofs.Ytpkghpljgjlmjaa.K
/- reedsolomon.distinct, combine: contracts. -/
namespace Go.Proofs.Ytpkghpljgjlmjaa.K
open Go.RowKit Go.Proofs.YtpkghpljgjlmjaaW.PrintWords Go.Proofs.YtpkghpljgjlmjaaW.PrintLast Go.Proofs.YtpkghpljgjlmjaaW.PrintMore Kin
set_option linter.unusedSimpArgs false
set_option linter.unusedVariables false
def distB (t : Int) (l : List Int) : Bool := decide (l.Nodup) && l.all (fun i => decide (0 ≤ i ∧ i < t))
theorem toB_up (F : List B) : (up F).map toB = F := by
  induction F with
  | nil => rfl
  | cons x F ih => rw [up_cons, List.map_cons, toB_b2i, ih]
/-- combine, of bytes, the blocks of the length n. -/
def combOk (l0 : List Int) (l1 : List (List Int)) (a2 : Int) : Prop := (l0.all isB = true ∧ bytes2 l1 = true) ∧ l1.length ≤ l0.length ∧ 0 ≤ a2 ∧ a2 ≤ 140737488351232 ∧ ∀ b ∈ l1, (b.length : Int) = a2
instance (l0 : List Int) (l1 : List (List Int)) (a2 : Int) : Decidable (combOk l0 l1 a2) := by unfold combOk; infer_instance
def reedsolomon_combine.f (l0 : List Int) (l1 : List (List Int)) (a2 : Int) : Option (List Int) :=
  if combOk l0 l1 a2 then some (up (applyPart a2.toNat (l0.map toB) (toB2 l1) l1.length)) else none
set_option maxRecDepth 10000 in
theorem reedsolomon_combine.calls (A0 : Option Addr) (c0 : Nat) (l0 : List Int) (A1 : Option Addr) (c1 : Nat) (l1 : List (List Int)) (a2 : Int) (r : List Int) (w : World) (hr0 : Kd.C (Kd.int .u8) w A0 l0.length l0) (hc0 : l0.length ≤ c0) (hr1 : Kd.C (Kd.slice 5 (Kd.int .u8)) w A1 l1.length l1) (hc1 : l1.length ≤ c1) (h : reedsolomon_combine.f l0 l1 a2 = some r) :
    Calls Try.prog 71 #[.slice A0 l0.length c0, .slice A1 l1.length c1, .int .i64 a2] w fun e w' => ∃ v0_ : Value, e = .returned (v0_) ∧ Kd.R (Kd.int .u8) 5 w' w.heap.size (fun _ => True) v0_ r ∧ Below w.heap.size w w' := by
  unfold reedsolomon_combine.f at h
  split at h
  · rename_i ho
    obtain ⟨⟨h1, h2⟩, h3, h4, h5, h6⟩ := ho
    obtain ⟨F, rfl⟩ := exists_up (List.all_eq_true.1 h1)
    obtain ⟨Bs, rfl⟩ := exists_bytes2 h2
    obtain ⟨n, rfl⟩ := Int.eq_ofNat_of_zero_le h4
    obtain rfl := Option.some.inj h
    have e1 : (up F).map toB = F := toB_up F
    have hn : n ≤ 140737488351232 := by omega
    have hl : Bs.length ≤ F.length := by rw [up2_length, up_length] at h3; exact h3
    have hb : ∀ b ∈ Bs, b.length = n := fun b hb => by
      have := h6 (up b) (List.mem_map.2 ⟨b, hb, rfl⟩)
      rw [up_length] at this
      exact Int.ofNat_inj.1 this
    have e2 : up (applyPart (n : Int).toNat ((up F).map toB) (toB2 (up2 Bs)) (up2 Bs).length) = up (applyPart n F Bs Bs.length) := by rw [e1, toB2_up2, Int.toNat_natCast, up2_length]
    rw [e2]
    exact combine_calls F Bs n A0 c0 A1 c1 w hn hl hb hr0 hc0 hr1 hc1
  · cases h
end Go.Proofs.Ytpkghpljgjlmjaa.K
/- The walk of Solve of package matrix. -/
namespace Go.Proofs.Ytpkghpljgjlmjaa.K
open Go.RowKit Go.Proofs.YtpkghpljgjlmjaaW.PrintWords Go.Proofs.YtpkghpljgjlmjaaW.PrintLast Go.Proofs.YtpkghpljgjlmjaaW.PrintMore Kin
set_option linter.unusedVariables false
set_option linter.unusedSimpArgs false
theorem S_slot {w : World} {base g n c : Nat} {ok : Nat → Prop} {xs : List (List Int)} (h : Kd.S D 34 w base ok (.slice (some ⟨g, 0, none⟩) n c) xs) (i : Nat) (hi : i < n) :
    ∃ A co, w.cell? ⟨g, i, none⟩ = some (.slice A (xs.getD i []).length co) ∧ (xs.getD i []).length ≤ co ∧ (Kd.int .u8).C w A (xs.getD i []).length (xs.getD i []) ∧ w.frozen? ⟨g, i, none⟩ = false := by
  obtain ⟨_, ce, hcl3, hM3, hcc3, hfr3, _, _⟩ := Kd.S_elem h [] (i : Int) (by omega) (by omega)
  obtain ⟨ve, rfl, ge⟩ := hM3
  have hxo := hcc3 0 _ rfl
  have hfo := hfr3 0
  rw [show (i : Int).toNat * (D).sz + 0 = i from by rw [Int.toNat_natCast]; show i * 1 + 0 = i; omega] at hxo hfo
  rw [Int.toNat_natCast] at ge
  obtain ⟨Ao, co, rfl⟩ := Kd.R_slice ge
  obtain ⟨_, hoc, hoR⟩ := Kd.R_reads' ge
  exact ⟨Ao, co, hxo, hoc, hoR, hfo⟩
/-- What the round's two makings have left: the copied row, and the literal of one element. -/
structure MadeS (W w' : World) (v1 v2 : Value) (row : List Int) (x : Int) : Prop where
  row : Kd.R (Kd.int .u8) 5 w' W.heap.size (fun _ => True) v1 row
  lit : Kd.R (Kd.int .u8) 5 w' W.heap.size (fun _ => True) v2 [x]
  below : Below W.heap.size W w'
theorem MadeS.one {W w4 w5 : World} {v1 v2 : Value} {row : List Int} {x : Int} (hr : Kd.R (Kd.int .u8) 5 w4 W.heap.size (fun _ => True) v1 row) (hb : Below W.heap.size W w4) (hl : Kd.R (Kd.int .u8) 5 w5 w4.heap.size (fun _ => True) v2 [x]) (hb5 : Below w4.heap.size w4 w5) : MadeS W w5 v1 v2 row x :=
  ⟨Kd.R_below hr hb5, Kd.R_lower hl hb.size, hb.trans (hb5.mono hb.size)⟩
end Go.Proofs.Ytpkghpljgjlmjaa.K
-- Lines of this claim, written by the session's own program kprint.py (it runs print.py).
namespace Go.Proofs.Ytpkghpljgjlmjaa.K
open Go.RowKit Go.Proofs.YtpkghpljgjlmjaaW.PrintWords Go.Proofs.YtpkghpljgjlmjaaW.PrintLast Go.Proofs.YtpkghpljgjlmjaaW.PrintMore
attribute [local go_sem] max2_int min2_int max_two min_two max_three min_three max_four min_four   -- for this text's walks alone
set_option linter.unusedVariables false
set_option linter.unusedSimpArgs false

/-! ### matrix_square: function 67 -/
def matrix_square.f (l0 : List (List Int)) : Option (Bool) := (matrix_Valid.f l0).bind fun t101 => (if t101 = true then ((matrix_columns.f l0).bind fun t102 => (some (t102 == (l0.length : Int)))) else (some false))
set_option maxHeartbeats 8000000 in
set_option maxRecDepth 100000 in
theorem matrix_square.calls (A0 : Option Addr) (c0 : Nat) (l0 : List (List Int)) (r : Bool) (w : World) (hr0 : Kd.C (Kd.slice 5 (Kd.int .u8)) w A0 l0.length l0) (hc0 : l0.length ≤ c0) (h : matrix_square.f l0 = some r) :
    Calls Try.prog 67 #[.slice A0 l0.length c0] w fun e w' => e = .returned (.bool r) ∧ Below w.heap.size w w' := by
  have HR0 := Aside0.mk hr0
  have HC0 := Aside0.mk hc0
  clear hr0 hc0
  have HB := Aside0.mk (Below.refl w.heap.size w)
  have H : ((matrix_Valid.f l0).bind fun t101 => (if t101 = true then ((matrix_columns.f l0).bind fun t102 => (some (t102 == (l0.length : Int)))) else (some false))) = some r := h
  clear h
  replace H := Option.bind_eq_some_iff.mp H
  obtain ⟨t101, A20, H⟩ := H
  replace H : (if t101 = true then ((matrix_columns.f l0).bind fun t102 => (some (t102 == (l0.length : Int)))) else (some false)) = some r := H
  have A2 := Aside0.mk A20
  clear A20
  by_cases c3 : t101 = true
  · subst c3
    have H1 : ((matrix_columns.f l0).bind fun t102 => (some (t102 == (l0.length : Int)))) = some r := by rw [if_pos rfl] at H; exact H
    clear H
    have H := H1
    clear H1
    replace H := Option.bind_eq_some_iff.mp H
    obtain ⟨t102, A40, H⟩ := H
    replace H : (some (t102 == (l0.length : Int))) = some r := H
    have A4 := Aside0.mk A40
    clear A40
    obtain rfl := Option.some.inj H
    go_enter Try.func67, Try.ntmps67
    go_wp2_with (first | ((with_reducible refine gate_callee (f := 17) rfl ?_); refine goesL_ (some 4) rfl rfl Try.func17 (by kernel_rfl) rfl #[.slice A0 l0.length c0] rfl (by (try simp only [List.map_toArray, List.map_cons, List.map_nil]); first | done | rfl | (simp only [List.length_drop, List.length_take]; rfl)) ?_; (with_reducible refine (matrix_Valid.calls _ _ l0 true _ ?side1 ?side2 A2.out).mono ?_); (case side1 => repeat (first | exact HR0.out | (with_reducible refine Kd.C_alloc ?_ _) | (with_reducible refine Kd.C_drewN ?_ _) | (with_reducible refine Kd.C_drew ?_))); (case side2 => exact HC0.out); rintro e w5 ⟨rfl, hb⟩; refine ⟨_, rfl, ?_⟩; have n0_ := Aside0.mk (below_step (by repeat (first | (with_reducible first | exact HB.out | apply below_alloc | apply pw_below_drewN | apply below_drew1) | exact HB.out)) hb); clear HB; have HB := n0_; clear n0_; (try clear hb); (try clear hb2); (try clear hk); (try clear hi)) | (go_at_call 56; (with_reducible refine (matrix_columns.calls _ _ l0 t102 _ ?side1 ?side2 A4.out).mono ?_); (case side1 => repeat (first | exact (Kd.C_below HR0.out HB.out) | (with_reducible refine Kd.C_alloc ?_ _) | (with_reducible refine Kd.C_drewN ?_ _) | (with_reducible refine Kd.C_drew ?_))); (case side2 => exact HC0.out); rintro e w' ⟨rfl, ⟨nd, rfl⟩⟩))
    go_ret
    exact ⟨by first | rfl | (simp [errW_none, errW_some] <;> rfl) | (simp [*, errW_none, errW_some] <;> rfl), by repeat (first | (with_reducible first | exact HB.out | apply below_alloc | apply pw_below_drewN | apply below_drew1) | exact HB.out)⟩
  · replace c3 := Bool.eq_false_iff.mpr c3
    subst c3
    have H1 : (some false) = some r := by rw [if_neg (show ¬ (false = true) by decide)] at H; exact H
    clear H
    have H := H1
    clear H1
    obtain rfl := Option.some.inj H
    go_enter Try.func67, Try.ntmps67
    go_wp2_with (first | ((with_reducible refine gate_callee (f := 17) rfl ?_); refine goesL_ (some 4) rfl rfl Try.func17 (by kernel_rfl) rfl #[.slice A0 l0.length c0] rfl (by (try simp only [List.map_toArray, List.map_cons, List.map_nil]); first | done | rfl | (simp only [List.length_drop, List.length_take]; rfl)) ?_; (with_reducible refine (matrix_Valid.calls _ _ l0 false _ ?side1 ?side2 A2.out).mono ?_); (case side1 => repeat (first | exact HR0.out | (with_reducible refine Kd.C_alloc ?_ _) | (with_reducible refine Kd.C_drewN ?_ _) | (with_reducible refine Kd.C_drew ?_))); (case side2 => exact HC0.out); rintro e w6 ⟨rfl, hb⟩; refine ⟨_, rfl, ?_⟩; have n0_ := Aside0.mk (below_step (by repeat (first | (with_reducible first | exact HB.out | apply below_alloc | apply pw_below_drewN | apply below_drew1) | exact HB.out)) hb); clear HB; have HB := n0_; clear n0_; (try clear hb); (try clear hb2); (try clear hk); (try clear hi)))
    go_ret
    exact ⟨by first | rfl | (simp [errW_none, errW_some] <;> rfl) | (simp [*, errW_none, errW_some] <;> rfl), by repeat (first | (with_reducible first | exact HB.out | apply below_alloc | apply pw_below_drewN | apply below_drew1) | exact HB.out)⟩
/-! ### matrix_Mul: function 31 -/
def matrix_Mul.j0 : Nat → List (List Int) → List (List Int) → Bool → Option ((List (List Int)) × Int)
  | 0, _, _, _ => none
  | k + 1, x0, x1, x20 => if x20 = true then (some (([] : List (List Int)), 1)) else (if (x1.length : Int) = 0 then ((matrix_zero.f k (x0.length : Int) 0).bind fun t106 => (some (t106, 0))) else ((matrix_Apply.f x0 x1).bind fun bt109 => (some (bt109.1, bt109.2))))
def matrix_Mul.f (k : Nat) (l0 : List (List Int)) (l1 : List (List Int)) : Option ((List (List Int)) × Int) := (matrix_Valid.f l0).bind fun t103 => (if t103 = true then ((matrix_Valid.f l1).bind fun t104 => (if t104 = true then ((matrix_columns.f l0).bind fun t105 => (matrix_Mul.j0 k l0 l1 (t105 != (l1.length : Int)))) else (matrix_Mul.j0 k l0 l1 true))) else (matrix_Mul.j0 k l0 l1 true))
set_option maxHeartbeats 8000000 in
set_option maxRecDepth 100000 in
theorem matrix_Mul.calls (k : Nat) (A0 : Option Addr) (c0 : Nat) (l0 : List (List Int)) (A1 : Option Addr) (c1 : Nat) (l1 : List (List Int)) (r1 : List (List Int)) (r2 : Int) (w : World) (hr0 : Kd.C (Kd.slice 5 (Kd.int .u8)) w A0 l0.length l0) (hc0 : l0.length ≤ c0) (hr1 : Kd.C (Kd.slice 5 (Kd.int .u8)) w A1 l1.length l1) (hc1 : l1.length ≤ c1) (h : matrix_Mul.f k l0 l1 = some (r1, r2)) :
    Calls Try.prog 31 #[.slice A0 l0.length c0, .slice A1 l1.length c1] w fun e w' => ∃ v0_ : Value, e = .returned (.tuple #[v0_, .int .i64 r2]) ∧ Kd.S (Kd.slice 5 (Kd.int .u8)) 34 w' w.heap.size (fun _ => True) v0_ r1 ∧ Below w.heap.size w w' := by
  have HR0 := Aside0.mk hr0
  have HC0 := Aside0.mk hc0
  clear hr0 hc0
  have HR1 := Aside0.mk hr1
  have HC1 := Aside0.mk hc1
  clear hr1 hc1
  have HB := Aside0.mk (Below.refl w.heap.size w)
  have H : ((matrix_Valid.f l0).bind fun t103 => (if t103 = true then ((matrix_Valid.f l1).bind fun t104 => (if t104 = true then ((matrix_columns.f l0).bind fun t105 => (matrix_Mul.j0 k l0 l1 (t105 != (l1.length : Int)))) else (matrix_Mul.j0 k l0 l1 true))) else (matrix_Mul.j0 k l0 l1 true))) = some (r1, r2) := h
  clear h
  have HC3 := Aside0.mk H
  clear H
  go_enter Try.func31, Try.ntmps31
  go_upto_region 1 with (fail)
  go_cut [20] (fun v20 wc => ∃ (kq : Nat) (x20_2 : Bool), v20 = .bool x20_2 ∧ Aside0 (matrix_Mul.j0 kq l0 l1 x20_2 = some (r1, r2)) ∧ Aside0 (kq ≤ k) ∧ Aside0 (Below w.heap.size w wc))
  case first =>
    have H := HC3.out
    clear HC3
    replace H := Option.bind_eq_some_iff.mp H
    obtain ⟨t103, A40, H⟩ := H
    replace H : (if t103 = true then ((matrix_Valid.f l1).bind fun t104 => (if t104 = true then ((matrix_columns.f l0).bind fun t105 => (matrix_Mul.j0 k l0 l1 (t105 != (l1.length : Int)))) else (matrix_Mul.j0 k l0 l1 true))) else (matrix_Mul.j0 k l0 l1 true)) = some (r1, r2) := H
    have A4 := Aside0.mk A40
    clear A40
    by_cases c5 : t103 = true
    · subst c5
      have H1 : ((matrix_Valid.f l1).bind fun t104 => (if t104 = true then ((matrix_columns.f l0).bind fun t105 => (matrix_Mul.j0 k l0 l1 (t105 != (l1.length : Int)))) else (matrix_Mul.j0 k l0 l1 true))) = some (r1, r2) := by rw [if_pos rfl] at H; exact H
      clear H
      have H := H1
      clear H1
      replace H := Option.bind_eq_some_iff.mp H
      obtain ⟨t104, A60, H⟩ := H
      replace H : (if t104 = true then ((matrix_columns.f l0).bind fun t105 => (matrix_Mul.j0 k l0 l1 (t105 != (l1.length : Int)))) else (matrix_Mul.j0 k l0 l1 true)) = some (r1, r2) := H
      have A6 := Aside0.mk A60
      clear A60
      by_cases c7 : t104 = true
      · subst c7
        have H1 : ((matrix_columns.f l0).bind fun t105 => (matrix_Mul.j0 k l0 l1 (t105 != (l1.length : Int)))) = some (r1, r2) := by rw [if_pos rfl] at H; exact H
        clear H
        have H := H1
        clear H1
        replace H := Option.bind_eq_some_iff.mp H
        obtain ⟨t105, A80, H⟩ := H
        replace H : (matrix_Mul.j0 k l0 l1 (t105 != (l1.length : Int))) = some (r1, r2) := H
        have A8 := Aside0.mk A80
        clear A80
        have H' := Aside0.mk H
        clear H
        go_wp2_with (first | ((with_reducible refine gate_callee (f := 17) rfl ?_); refine goesL_ (some 7) rfl rfl Try.func17 (by kernel_rfl) rfl #[.slice A0 l0.length c0] rfl (by (try simp only [List.map_toArray, List.map_cons, List.map_nil]); first | done | rfl | (simp only [List.length_drop, List.length_take]; rfl)) ?_; (with_reducible refine (matrix_Valid.calls _ _ l0 true _ ?side1 ?side2 A4.out).mono ?_); (case side1 => repeat (first | exact (Kd.C_below HR0.out HB.out) | (with_reducible refine Kd.C_alloc ?_ _) | (with_reducible refine Kd.C_drewN ?_ _) | (with_reducible refine Kd.C_drew ?_))); (case side2 => exact HC0.out); rintro e w9 ⟨rfl, hb⟩; refine ⟨_, rfl, ?_⟩; have n0_ := Aside0.mk (below_step (by repeat (first | (with_reducible first | exact HB.out | apply below_alloc | apply pw_below_drewN | apply below_drew1) | exact HB.out)) hb); clear HB; have HB := n0_; clear n0_; (try clear hb); (try clear hb2); (try clear hk); (try clear hi)) | (go_at_call 17; (with_reducible refine (matrix_Valid.calls _ _ l1 true _ ?side1 ?side2 A6.out).mono ?_); (case side1 => repeat (first | exact (Kd.C_below HR1.out HB.out) | (with_reducible refine Kd.C_alloc ?_ _) | (with_reducible refine Kd.C_drewN ?_ _) | (with_reducible refine Kd.C_drew ?_))); (case side2 => exact HC1.out); rintro e w10 ⟨rfl, hb⟩; have n0_ := Aside0.mk (below_step (by repeat (first | (with_reducible first | exact HB.out | apply below_alloc | apply pw_below_drewN | apply below_drew1) | exact HB.out)) hb); clear HB; have HB := n0_; clear n0_; (try clear hb); (try clear hb2); (try clear hk); (try clear hi)) | (go_at_call 56; (with_reducible refine (matrix_columns.calls _ _ l0 t105 _ ?side1 ?side2 A8.out).mono ?_); (case side1 => repeat (first | exact (Kd.C_below HR0.out HB.out) | (with_reducible refine Kd.C_alloc ?_ _) | (with_reducible refine Kd.C_drewN ?_ _) | (with_reducible refine Kd.C_drew ?_))); (case side2 => exact HC0.out); rintro e w' ⟨rfl, ⟨nd, rfl⟩⟩))
        go_meet
        case rel => exact ⟨_, ((t105 != (l1.length : Int))), (by first | rfl | (simp; done) | (simp [*]; done)), H', ⟨by first | omega | exact Nat.le_refl _⟩, ⟨by repeat (first | (with_reducible first | exact HB.out | apply below_alloc | apply pw_below_drewN | apply below_drew1) | exact HB.out)⟩⟩
      · replace c7 := Bool.eq_false_iff.mpr c7
        subst c7
        have H1 : (matrix_Mul.j0 k l0 l1 true) = some (r1, r2) := by rw [if_neg (show ¬ (false = true) by decide)] at H; exact H
        clear H
        have H := H1
        clear H1
        have H' := Aside0.mk H
        clear H
        go_wp2_with (first | ((with_reducible refine gate_callee (f := 17) rfl ?_); refine goesL_ (some 7) rfl rfl Try.func17 (by kernel_rfl) rfl #[.slice A0 l0.length c0] rfl (by (try simp only [List.map_toArray, List.map_cons, List.map_nil]); first | done | rfl | (simp only [List.length_drop, List.length_take]; rfl)) ?_; (with_reducible refine (matrix_Valid.calls _ _ l0 true _ ?side1 ?side2 A4.out).mono ?_); (case side1 => repeat (first | exact (Kd.C_below HR0.out HB.out) | (with_reducible refine Kd.C_alloc ?_ _) | (with_reducible refine Kd.C_drewN ?_ _) | (with_reducible refine Kd.C_drew ?_))); (case side2 => exact HC0.out); rintro e w11 ⟨rfl, hb⟩; refine ⟨_, rfl, ?_⟩; have n0_ := Aside0.mk (below_step (by repeat (first | (with_reducible first | exact HB.out | apply below_alloc | apply pw_below_drewN | apply below_drew1) | exact HB.out)) hb); clear HB; have HB := n0_; clear n0_; (try clear hb); (try clear hb2); (try clear hk); (try clear hi)) | (go_at_call 17; (with_reducible refine (matrix_Valid.calls _ _ l1 false _ ?side1 ?side2 A6.out).mono ?_); (case side1 => repeat (first | exact (Kd.C_below HR1.out HB.out) | (with_reducible refine Kd.C_alloc ?_ _) | (with_reducible refine Kd.C_drewN ?_ _) | (with_reducible refine Kd.C_drew ?_))); (case side2 => exact HC1.out); rintro e w12 ⟨rfl, hb⟩; have n0_ := Aside0.mk (below_step (by repeat (first | (with_reducible first | exact HB.out | apply below_alloc | apply pw_below_drewN | apply below_drew1) | exact HB.out)) hb); clear HB; have HB := n0_; clear n0_; (try clear hb); (try clear hb2); (try clear hk); (try clear hi)))
        go_meet
        case rel => exact ⟨_, (true), (by first | rfl | (simp; done) | (simp [*]; done)), H', ⟨by first | omega | exact Nat.le_refl _⟩, ⟨by repeat (first | (with_reducible first | exact HB.out | apply below_alloc | apply pw_below_drewN | apply below_drew1) | exact HB.out)⟩⟩
    · replace c5 := Bool.eq_false_iff.mpr c5
      subst c5
      have H1 : (matrix_Mul.j0 k l0 l1 true) = some (r1, r2) := by rw [if_neg (show ¬ (false = true) by decide)] at H; exact H
      clear H
      have H := H1
      clear H1
      have H' := Aside0.mk H
      clear H
      go_wp2_with (first | ((with_reducible refine gate_callee (f := 17) rfl ?_); refine goesL_ (some 7) rfl rfl Try.func17 (by kernel_rfl) rfl #[.slice A0 l0.length c0] rfl (by (try simp only [List.map_toArray, List.map_cons, List.map_nil]); first | done | rfl | (simp only [List.length_drop, List.length_take]; rfl)) ?_; (with_reducible refine (matrix_Valid.calls _ _ l0 false _ ?side1 ?side2 A4.out).mono ?_); (case side1 => repeat (first | exact (Kd.C_below HR0.out HB.out) | (with_reducible refine Kd.C_alloc ?_ _) | (with_reducible refine Kd.C_drewN ?_ _) | (with_reducible refine Kd.C_drew ?_))); (case side2 => exact HC0.out); rintro e w13 ⟨rfl, hb⟩; refine ⟨_, rfl, ?_⟩; have n0_ := Aside0.mk (below_step (by repeat (first | (with_reducible first | exact HB.out | apply below_alloc | apply pw_below_drewN | apply below_drew1) | exact HB.out)) hb); clear HB; have HB := n0_; clear n0_; (try clear hb); (try clear hb2); (try clear hk); (try clear hi)))
      go_meet
      case rel => exact ⟨_, (true), (by first | rfl | (simp; done) | (simp [*]; done)), H', ⟨by first | omega | exact Nat.le_refl _⟩, ⟨by repeat (first | (with_reducible first | exact HB.out | apply below_alloc | apply pw_below_drewN | apply below_drew1) | exact HB.out)⟩⟩
  case rest =>
    clear HC3
    try clear c1
    try clear p2
    try clear c3
    try clear c5
    try clear c7
    obtain ⟨kq, x20_2, rfl, HA, HJ2, HB⟩ := hcut
    cases kq with
    | zero => exact absurd HA.out (by simp [matrix_Mul.j0])
    | succ kj2 =>
      have H := HA.out
      clear HA
      simp only [matrix_Mul.j0] at H
      by_cases c14 : x20_2 = true
      · subst c14
        have H1 : (some (([] : List (List Int)), 1)) = some (r1, r2) := by rw [if_pos rfl] at H; exact H
        clear H
        have H := H1
        clear H1
        simp only [Option.some.injEq, Prod.mk.injEq] at H
        obtain ⟨rfl, rfl⟩ := H
        go_wp2
        go_ret2
        exact ⟨_, by first | rfl | (simp [errW_none, errW_some] <;> rfl) | (simp [*, errW_none, errW_some] <;> rfl), by first | exact Kd.S_nil _ _ _ _ _ | exact Kd.N_nil _ _ _ _ _ | exact Kd.V_nil _ _ _ _ _ | exact Kd.Q_nil _ _ _ _ _ | exact Kd.R_nil _ _ _ _ _, by repeat (first | (with_reducible first | exact HB.out | apply below_alloc | apply pw_below_drewN | apply below_drew1) | exact HB.out)⟩
      · replace c14 := Bool.eq_false_iff.mpr c14
        subst c14
        have H1 : (if (l1.length : Int) = 0 then ((matrix_zero.f kj2 (l0.length : Int) 0).bind fun t106 => (some (t106, 0))) else ((matrix_Apply.f l0 l1).bind fun bt109 => (some (bt109.1, bt109.2)))) = some (r1, r2) := by rw [if_neg (show ¬ (false = true) by decide)] at H; exact H
        clear H
        have H := H1
        clear H1
        by_cases c15 : (l1.length : Int) = 0
        · rw [if_pos c15] at H
          have c15b0 : ((l1.length : Int) == 0) = true := beq_iff_eq.mpr c15
          have c15b1 : ((l1.length : Int) != 0) = false := bne_eq_false_iff_eq.mpr c15
          clear c15
          replace H := Option.bind_eq_some_iff.mp H
          obtain ⟨t106, A160, H⟩ := H
          replace H : (some (t106, 0)) = some (r1, r2) := H
          have A16 := Aside0.mk A160
          clear A160
          simp only [Option.some.injEq, Prod.mk.injEq] at H
          obtain ⟨rfl, rfl⟩ := H
          go_wp2_with (first | ((with_reducible refine gate_callee (f := 64) rfl ?_); refine goesL_ (some 26) rfl rfl Try.func64 (by kernel_rfl) rfl #[.int .i64 (l0.length : Int), .int .i64 0] rfl (by (try simp only [List.map_toArray, List.map_cons, List.map_nil]); first | done | rfl | (simp only [List.length_drop, List.length_take]; rfl)) ?_; (with_reducible refine (matrix_zero.calls kj2 (l0.length : Int) 0 t106 _ A16.out).mono ?_); rintro e w17 ⟨v107, rfl, ho0, hb⟩; refine ⟨_, rfl, ?_⟩; have n0_ := Aside0.mk (Kd.S_lower ho0 (below_size (by repeat (first | (with_reducible first | exact HB.out | apply below_alloc | apply pw_below_drewN | apply below_drew1) | exact HB.out)))); have n1_ := Aside0.mk (below_step (by repeat (first | (with_reducible first | exact HB.out | apply below_alloc | apply pw_below_drewN | apply below_drew1) | exact HB.out)) hb); clear HB; have HO108 := n0_; have HB := n1_; clear n0_ n1_; (try clear hb); (try clear hb2); (try clear hk); (try clear hi); (try clear ho0)))
          go_ret2
          exact ⟨_, by first | rfl | (simp [errW_none, errW_some] <;> rfl) | (simp [*, errW_none, errW_some] <;> rfl), by (with_reducible repeat (first | apply Kd.S_alloc | apply Kd.S_drewN | apply Kd.S_drew)); exact HO108.out, by repeat (first | (with_reducible first | exact HB.out | apply below_alloc | apply pw_below_drewN | apply below_drew1) | exact HB.out)⟩
        · rw [if_neg c15] at H
          have c15b0 : ((l1.length : Int) == 0) = false := beq_eq_false_iff_ne.mpr c15
          have c15b1 : ((l1.length : Int) != 0) = true := bne_iff_ne.mpr c15
          have c15b2 : ¬ (l1 = []) := fun h_ => c15 (by rw [h_]; rfl)
          replace H := Option.bind_eq_some_iff.mp H
          obtain ⟨⟨t109, t110⟩, A180, H⟩ := H
          replace H : (some (t109, t110)) = some (r1, r2) := H
          have A18 := Aside0.mk A180
          clear A180
          simp only [Option.some.injEq, Prod.mk.injEq] at H
          obtain ⟨rfl, rfl⟩ := H
          go_wp2_with (first | ((with_reducible refine gate_callee (f := 32) rfl ?_); refine goesL_ (some 29) rfl rfl Try.func32 (by kernel_rfl) rfl #[.slice A0 l0.length c0, .slice A1 l1.length c1] rfl (by (try simp only [List.map_toArray, List.map_cons, List.map_nil]); first | done | rfl | (simp only [List.length_drop, List.length_take]; rfl)) ?_; (with_reducible refine (matrix_Apply.calls _ _ l0 _ _ l1 t109 t110 _ ?side1 ?side2 ?side3 ?side4 A18.out).mono ?_); (case side1 => repeat (first | exact (Kd.C_below HR0.out HB.out) | (with_reducible refine Kd.C_alloc ?_ _) | (with_reducible refine Kd.C_drewN ?_ _) | (with_reducible refine Kd.C_drew ?_))); (case side2 => exact HC0.out); (case side3 => repeat (first | exact (Kd.C_below HR1.out HB.out) | (with_reducible refine Kd.C_alloc ?_ _) | (with_reducible refine Kd.C_drewN ?_ _) | (with_reducible refine Kd.C_drew ?_))); (case side4 => exact HC1.out); rintro e w19 ⟨v111, rfl, ho0, hb⟩; refine ⟨_, rfl, ?_⟩; have n0_ := Aside0.mk (Kd.S_lower ho0 (below_size (by repeat (first | (with_reducible first | exact HB.out | apply below_alloc | apply pw_below_drewN | apply below_drew1) | exact HB.out)))); have n1_ := Aside0.mk (below_step (by repeat (first | (with_reducible first | exact HB.out | apply below_alloc | apply pw_below_drewN | apply below_drew1) | exact HB.out)) hb); clear HB; have HO112 := n0_; have HB := n1_; clear n0_ n1_; (try clear hb); (try clear hb2); (try clear hk); (try clear hi); (try clear ho0)))
          go_ret2
          exact ⟨_, by first | rfl | (simp [errW_none, errW_some] <;> rfl) | (simp [*, errW_none, errW_some] <;> rfl), by (with_reducible repeat (first | apply Kd.S_alloc | apply Kd.S_drewN | apply Kd.S_drew)); exact HO112.out, by repeat (first | (with_reducible first | exact HB.out | apply below_alloc | apply pw_below_drewN | apply below_drew1) | exact HB.out)⟩
end Go.Proofs.Ytpkghpljgjlmjaa.K
/- slices.Grow of the nil slice: its walk. -/
namespace Go.Proofs.Ytpkghpljgjlmjaa.K
open Go.RowKit Go.Proofs.YtpkghpljgjlmjaaW.PrintWords Go.Proofs.YtpkghpljgjlmjaaW.PrintLast Go.Proofs.YtpkghpljgjlmjaaW.PrintMore
set_option linter.unusedVariables false
set_option linter.unusedSimpArgs false
def slices_Grow_byte_byte.f (l0 : List Int) (a1 : Int) : Option (List Int) := if l0 = [] ∧ 0 ≤ a1 ∧ a1 ≤ 1000000 then some [] else none
set_option maxRecDepth 100000 in
set_option maxHeartbeats 2000000 in
theorem grow_calls (n : Nat) (w : World) (hn : n ≤ 1000000) : Calls Try.prog 95 #[.slice none 0 0, .int .i64 (n : Int)] w fun e w' => ∃ v0_ : Value, e = .returned v0_ ∧ Kd.R (Kd.int .u8) 5 w' w.heap.size (fun _ => True) v0_ [] ∧ Below w.heap.size w w' := by
  by_cases h0 : n = 0
  · subst h0
    go_enter Try.func95, Try.ntmps95
    go_wp2
    go_ret
    exact ⟨_, rfl, Kd.R_nil _ _ _ _ _, Below.refl _ _⟩
  · obtain ⟨i0, hi0, hzz⟩ := Option.map_eq_some_iff.1 info5
    simp only [Prod.mk.injEq] at hzz
    obtain ⟨hz0, hz1, hz2⟩ := hzz
    have h1 : ¬ ((n : Int) < 0) := by omega
    have h3 : wrap64 (n : Int) = (n : Int) := by unfold wrap64; omega
    have h4 : (n : Int) > 0 := by omega
    have hold : (Builtin.firstCells i0.size 0 (.slice none 0 0)).run Try.prog w.drew = .ok #[] w.drew := run_firstCells_none w.drew i0.size 0 0 0
    obtain ⟨G, hG⟩ : ∃ G, G = grownCap w (0 + n) 0 5 := ⟨_, rfl⟩
    have hrz : ∀ ty, (Builtin.append_ #[34, 3] ty #[.slice none 0 0, .int .i64 (n : Int)]).run Try.prog w =
        .ok (.slice (some ⟨w.heap.size, 0, none⟩) n G) (w.drew.alloc (.cells (#[] ++ Builtin.zeroCells (Value.int .u8 0).cells n ++ Builtin.zeroCells (Value.int .u8 0).cells (G - n)) 5)) := fun ty => by
      have h := Lib.run_append_grow_zeros w 34 3 ty 5 i0 (.int .u8 0) .i64 .i64 Try.underlying34 Try.underlying3 hi0 hz0 none 0 0 [] hold n (by omega) (by omega) (by omega) (by omega) (by rw [hz2]; omega) (growslice_fits (by omega) (by rw [hz2]; omega))
      rw [← hG, Nat.zero_add] at h
      exact h
    have hGn : n ≤ G := by rw [hG]; have := grownCap_ge w (0 + n) 0 5; omega
    have hG63 : G ≤ 9223372036854775807 := by
      have := grownCap_le_maxLen w (0 + n) 0 5 (by unfold maxLen; omega)
      rw [← hG] at this
      exact this
    have HG := Aside0.mk hG
    have HGN := Aside0.mk hGn
    have HG63 := Aside0.mk hG63
    clear hG hGn hG63 hold hi0 hz0 hz1 hz2
    go_enter Try.func95, Try.ntmps95
    go_wp2_with (at_builtin; refine Lib.wpList_append_run _ rfl _ _ _ _ rfl _ _ rfl rfl _ _ (hrz _) ?_)
    all_goals go_ret
    refine ⟨_, rfl, ⟨fun k hk => trivial, [], ⟨by simp, .inr ⟨w.heap.size, G, Builtin.zeroCells #[Value.int IntKind.u8 0] n ++ Builtin.zeroCells #[Value.int IntKind.u8 0] (G - n), rfl, Nat.le_refl _, ?_, Nat.zero_le _, HG63.out, ?_, by simp⟩⟩, Reps.none _ _⟩, below_drew (Below.alloc (Below.refl _ _) (Nat.le_refl _) _)⟩
    · show (w.heap.push _)[w.heap.size]? = _
      exact Array.getElem?_push_size
    · have := HGN.out
      rw [Array.size_append, size_zeroCells, size_zeroCells]
      show n * 1 + (G - n) * 1 = G * 1
      omega
theorem slices_Grow_byte_byte.calls (A0 : Option Addr) (c0 : Nat) (l0 : List Int) (a1 : Int) (r : List Int) (w : World) (hr0 : Kd.C (Kd.int .u8) w A0 l0.length l0) (hc0 : l0.length ≤ c0) (hz : A0 = none ∧ c0 = 0) (h : slices_Grow_byte_byte.f l0 a1 = some r) :
    Calls Try.prog 95 #[.slice A0 l0.length c0, .int .i64 a1] w fun e w' => ∃ v0_ : Value, e = .returned v0_ ∧ Kd.R (Kd.int .u8) 5 w' w.heap.size (fun _ => True) v0_ r ∧ Below w.heap.size w w' := by
  unfold slices_Grow_byte_byte.f at h
  split at h
  · rename_i hc
    obtain ⟨rfl, h1, h2⟩ := hc
    obtain ⟨n, rfl⟩ := Int.eq_ofNat_of_zero_le h1
    obtain rfl := Option.some.inj h
    obtain ⟨rfl, rfl⟩ := hz
    exact grow_calls n w (by omega)
  · cases h
end Go.Proofs.Ytpkghpljgjlmjaa.K
/- slices.Concat of byte slices: its walk (the print of all but its panic, which is not reached). -/
namespace Go.Proofs.Ytpkghpljgjlmjaa.K
open Go.RowKit Go.Proofs.YtpkghpljgjlmjaaW.PrintWords Go.Proofs.YtpkghpljgjlmjaaW.PrintLast Go.Proofs.YtpkghpljgjlmjaaW.PrintMore
attribute [local go_sem] max2_int min2_int max_two min_two max_three min_three max_four min_four   -- for this text's walks alone
set_option linter.unusedVariables false
set_option linter.unusedSimpArgs false

/-! ### slices_Concat_byte_byte: function 74 -/
mutual
def slices_Concat_byte_byte.l0 : Nat → List (List Int) → Int → List (List Int) → Int → Int → Option (List Int)
  | 0, _, _, _, _, _ => none
  | k + 1, x0, x3, x9, x10, x11 => if x11 < x10 then (if 0 ≤ x11 then (if x11 < (x9.length : Int) then (if (wrap64 (x3 + ((rd_L1 x9 x11).length : Int))) < 0 then none else (slices_Concat_byte_byte.l0 k x0 (wrap64 (x3 + ((rd_L1 x9 x11).length : Int))) x9 x10 (wrap64 (x11 + 1)))) else (none)) else (none)) else ((slices_Grow_byte_byte.f ([] : List Int) x3).bind fun t102 => (slices_Concat_byte_byte.l1 k t102 x0 (x0.length : Int) 0))
def slices_Concat_byte_byte.l1 : Nat → List Int → List (List Int) → Int → Int → Option (List Int)
  | 0, _, _, _, _ => none
  | k + 1, x6, x25, x26, x27 => if x27 < x26 then (if 0 ≤ x27 then (if x27 < (x25.length : Int) then (if x6.length + (rd_L1 x25 x27).length < 140737488355328 then (slices_Concat_byte_byte.l1 k (x6 ++ (rd_L1 x25 x27)) x25 x26 (wrap64 (x27 + 1))) else (none)) else (none)) else (none)) else (some x6)
end
def slices_Concat_byte_byte.f (k : Nat) (l0 : List (List Int)) : Option (List Int) := slices_Concat_byte_byte.l0 k l0 0 l0 (l0.length : Int) 0
set_option maxHeartbeats 8000000 in
set_option maxRecDepth 100000 in
theorem slices_Concat_byte_byte.calls (k : Nat) (A0 : Option Addr) (c0 : Nat) (l0 : List (List Int)) (r : List Int) (w : World) (hr0 : Kd.C (Kd.slice 5 (Kd.int .u8)) w A0 l0.length l0) (hc0 : l0.length ≤ c0) (h : slices_Concat_byte_byte.f k l0 = some r) :
    Calls Try.prog 74 #[.slice A0 l0.length c0] w fun e w' => ∃ v0_ : Value, e = .returned (v0_) ∧ Kd.R (Kd.int .u8) 5 w' w.heap.size (fun _ => True) v0_ r ∧ Below w.heap.size w w' := by
  have HR0 := Aside0.mk hr0
  have HC0 := Aside0.mk hc0
  clear hr0 hc0
  have HB := Aside0.mk (Below.refl w.heap.size w)
  have H : (slices_Concat_byte_byte.l0 k l0 0 l0 (l0.length : Int) 0) = some r := h
  clear h
  have H' := Aside0.mk H
  clear H
  go_enter Try.func74, Try.ntmps74
  go_wp2
  go_loopg [3, 11] k (fun kq v3 v11 w' => ∃ (x3_1 : Int) (x11_1 : Int), v3 = .int .i64 x3_1 ∧ v11 = .int .i64 x11_1 ∧ Aside0 (slices_Concat_byte_byte.l0 kq l0 x3_1 l0 (l0.length : Int) x11_1 = some r) ∧ Aside0 (kq ≤ k) ∧ Aside0 (Below w.heap.size w w'))
  case atStart => exact ⟨(0), (0), (by first | rfl | (simp; done) | (simp [*]; done)), (by first | rfl | (simp; done) | (simp [*]; done)), H', ⟨Nat.le_refl _⟩, ⟨by repeat (first | (with_reducible first | exact HB.out | apply below_alloc | apply pw_below_drewN | apply below_drew1) | exact HB.out)⟩⟩
  case round =>
    clear H'
    obtain ⟨x3_1, x11_1, rfl, rfl, HA, HK1, HB⟩ := hrel
    cases gk with
    | zero => exact absurd HA.out (by simp [slices_Concat_byte_byte.l0])
    | succ k1 =>
      have H := HA.out
      clear HA
      simp only [slices_Concat_byte_byte.l0] at H
      by_cases c2 : x11_1 < (l0.length : Int)
      · rw [if_pos c2] at H
        have c2b0 : decide (x11_1 < (l0.length : Int)) = true := decide_eq_true c2
        clear c2
        by_cases c3 : 0 ≤ x11_1
        · rw [if_pos c3] at H
          have c3b0 : decide (0 ≤ x11_1) = true := decide_eq_true c3
          clear c3
          by_cases c4 : x11_1 < (l0.length : Int)
          · rw [if_pos c4] at H
            have c4b0 : decide (x11_1 < (l0.length : Int)) = true := decide_eq_true c4
            clear c4
            by_cases c5 : (wrap64 (x3_1 + ((rd_L1 l0 x11_1).length : Int))) < 0
            · rw [if_pos c5] at H
              exact absurd H (by simp)
            · rw [if_neg c5] at H
              have c5b0 : decide ((wrap64 (x3_1 + ((rd_L1 l0 x11_1).length : Int))) < 0) = false := decide_eq_false c5
              clear c5
              have H' := Aside0.mk H
              clear H
              have p101 : 0 ≤ (x11_1 : Int) := of_decide_eq_true (by first | (with_reducible assumption) | assumption)
              have q101 : x11_1 < (l0.length : Int) := of_decide_eq_true (by first | (with_reducible assumption) | assumption)
              obtain ⟨ad101, A101_0, c101_0, e101, hx101_0, hl101_0, hi101_0⟩ := at_L1 HR0.out x11_1 p101 q101
              cases e101
              replace hx101_0 := (HB.out.cell (World.block_lt_of_cell? w _ hx101_0)).trans hx101_0
              have HR101_0 := Aside0.mk hi101_0
              have HC101_0 := Aside0.mk hl101_0
              clear hi101_0 hl101_0
              replace p101 := eq_true p101
              replace q101 := eq_true q101
              go_wp2
              go_roundg k1
              case measure => have := HK1.out; omega
              case rel => exact ⟨(wrap64 (x3_1 + ((rd_L1 l0 x11_1).length : Int))), (wrap64 (x11_1 + 1)), (by first | rfl | (simp; done) | (simp [*]; done)), (by first | rfl | (simp; done) | (simp [*]; done)), H', ⟨by have := HK1.out; omega⟩, ⟨by repeat (first | (with_reducible first | exact HB.out | apply below_alloc | apply pw_below_drewN | apply below_drew1) | exact HB.out)⟩⟩
          · rw [if_neg c4] at H
            exact absurd H (by simp)
        · rw [if_neg c3] at H
          exact absurd H (by simp)
      · rw [if_neg c2] at H
        have c2b0 : decide (x11_1 < (l0.length : Int)) = false := decide_eq_false c2
        clear c2
        replace H := Option.bind_eq_some_iff.mp H
        obtain ⟨t102, A60, H⟩ := H
        replace H : (slices_Concat_byte_byte.l1 k1 t102 l0 (l0.length : Int) 0) = some r := H
        have A6 := Aside0.mk A60
        clear A60
        have H' := Aside0.mk H
        clear H
        go_wp2_with (first | ((with_reducible refine gate_callee (f := 95) rfl ?_); refine goesL_ (some 24) rfl rfl Try.func95 (by kernel_rfl) rfl #[.slice none 0 0, .int .i64 x3_1] rfl (by (try simp only [List.map_toArray, List.map_cons, List.map_nil]); first | done | rfl | (simp only [List.length_drop, List.length_take]; rfl)) ?_; (refine (slices_Grow_byte_byte.calls _ _ ([] : List Int) x3_1 t102 _ ?side1 ?side2 ⟨rfl, rfl⟩ A6.out).mono ?_); (case side1 => exact Kd.C_nil _ _); (case side2 => exact Nat.le_refl _); rintro e w7 ⟨v103, rfl, ho0, hb⟩; refine ⟨_, rfl, ?_⟩; have n0_ := Aside0.mk (Kd.R_lower ho0 (below_size (by repeat (first | (with_reducible first | exact HB.out | apply below_alloc | apply pw_below_drewN | apply below_drew1) | exact HB.out)))); have n1_ := Aside0.mk (below_step (by repeat (first | (with_reducible first | exact HB.out | apply below_alloc | apply pw_below_drewN | apply below_drew1) | exact HB.out)) hb); clear HB; have HO104 := n0_; have HB := n1_; clear n0_ n1_; (try clear hb); (try clear hb2); (try clear hk); (try clear hi); (try clear ho0)))
        go_loopg [6, 27] k1 (fun kq v6 v27 w' => ∃ (x6_2 : List Int) (x27_2 : Int), v27 = .int .i64 x27_2 ∧ Aside0 (slices_Concat_byte_byte.l1 kq x6_2 l0 (l0.length : Int) x27_2 = some r) ∧ Aside0 (kq ≤ k1) ∧ Aside0 (Kd.R (Kd.int .u8) 5 w' w.heap.size (fun _ => True) v6 x6_2) ∧ Aside0 (Below w.heap.size w w'))
        case atStart => exact ⟨(t102), (0), (by first | rfl | (simp; done) | (simp [*]; done)), H', ⟨Nat.le_refl _⟩, ⟨by (with_reducible repeat (first | apply Kd.R_alloc | apply Kd.R_drewN | apply Kd.R_drew)); exact HO104.out⟩, ⟨by repeat (first | (with_reducible first | exact HB.out | apply below_alloc | apply pw_below_drewN | apply below_drew1) | exact HB.out)⟩⟩
        case round =>
          clear H'
          try clear c1
          try clear p1
          try clear q1
          try clear hx1
          try clear c2
          try clear c2b0
          try clear p2
          try clear c3
          try clear c3b0
          try clear c4
          try clear c4b0
          try clear c5
          try clear c5b0
          try clear p6
          try clear c7
          try clear hx101_0
          try clear p101
          try clear q101
          obtain ⟨x6_2, x27_2, rfl, HA, HK2, HO_6, HB⟩ := hrel
          cases gk with
          | zero => exact absurd HA.out (by simp [slices_Concat_byte_byte.l1])
          | succ k2 =>
            have H := HA.out
            clear HA
            simp only [slices_Concat_byte_byte.l1] at H
            by_cases c8 : x27_2 < (l0.length : Int)
            · rw [if_pos c8] at H
              have c8b0 : decide (x27_2 < (l0.length : Int)) = true := decide_eq_true c8
              clear c8
              by_cases c9 : 0 ≤ x27_2
              · rw [if_pos c9] at H
                have c9b0 : decide (0 ≤ x27_2) = true := decide_eq_true c9
                clear c9
                by_cases c10 : x27_2 < (l0.length : Int)
                · rw [if_pos c10] at H
                  have c10b0 : decide (x27_2 < (l0.length : Int)) = true := decide_eq_true c10
                  clear c10
                  by_cases c11 : x6_2.length + (rd_L1 l0 x27_2).length < 140737488355328
                  · rw [if_pos c11] at H
                    have LMc11 := Aside0.mk c11
                    clear c11
                    obtain ⟨y106, hy106⟩ : ∃ y_ : List Int, y_ = (x6_2 ++ (rd_L1 l0 x27_2)) := ⟨_, rfl⟩
                    replace H : (slices_Concat_byte_byte.l1 k2 y106 l0 (l0.length : Int) (wrap64 (x27_2 + 1))) = some r := by first | (rw [hy106]; with_reducible exact H) | (have H2_ := (Option.bind_some _ _).symm.trans H; rw [hy106]; with_reducible exact H2_) | (have H2_ := (Option.bind_some _ _).symm.trans H; with_reducible exact H2_) | with_reducible exact H | (rw [hy106]; exact H) | exact H
                    have Ny106 := Aside0.mk hy106
                    clear hy106
                    have H' := Aside0.mk H
                    clear H
                    have p105 : 0 ≤ (x27_2 : Int) := of_decide_eq_true (by first | (with_reducible assumption) | assumption)
                    have q105 : x27_2 < (l0.length : Int) := of_decide_eq_true (by first | (with_reducible assumption) | assumption)
                    obtain ⟨ad105, A105_0, c105_0, e105, hx105_0, hl105_0, hi105_0⟩ := at_L1 HR0.out x27_2 p105 q105
                    cases e105
                    replace hx105_0 := (HB.out.cell (World.block_lt_of_cell? w _ hx105_0)).trans hx105_0
                    have HR105_0 := Aside0.mk hi105_0
                    have HC105_0 := Aside0.mk hl105_0
                    clear hi105_0 hl105_0
                    replace p105 := eq_true p105
                    replace q105 := eq_true q105
                    go_wp2_with (first | ((with_reducible refine gate_builtin (b := .append) (xs := #[.tmp 31, .tmp 32]) rfl ?_); at_builtin; refine Kd.R_append_rows (Kd.int .u8) (w0 := w) w.heap.size rfl (.tmp 31) (.tmp 32) 34 5 (.int .u8 0) 1 rfl Try.underlying34 info5 rfl (by decide) (by omega) u6 x6_2 (rd_L1 l0 x27_2) _ _ _ (fun _ => True) (fun _ => False) rfl rfl ?aO ?aR (fun _ _ h => h) (fun _ h => h.elim) ?aF ?aB ?aS ?aL ?_; (case aR => repeat (first | exact (Kd.C_below HR105_0.out HB.out) | (with_reducible refine Kd.C_alloc ?_ _) | (with_reducible refine Kd.C_drewN ?_ _) | (with_reducible refine Kd.C_drew ?_))); (case aB => exact (by repeat (first | (with_reducible first | exact HB.out | apply below_alloc | apply pw_below_drewN | apply below_drew1) | exact HB.out))); (case aF => exact (fun _ _ => trivial)); (case aO => exact (by (with_reducible repeat (first | apply Kd.R_alloc | apply Kd.R_drewN | apply Kd.R_drew)); exact HO_6.out)); (case aS => exact (below_size (by repeat (first | (with_reducible first | exact HB.out | apply below_alloc | apply pw_below_drewN | apply below_drew1) | exact HB.out)))); (case aL => have := LMc11.out; omega); intro v107 w12 ho hb hg hat; rw [← Ny106.out] at ho; have n0_ := Aside0.mk (hb); have n1_ := Aside0.mk (ho); clear HB; clear HO_6; have HB := n0_; have HO108 := n1_; clear n0_ n1_; clear ho hb hg hat))
                    go_roundg k2
                    case measure => have := HK1.out; have := HK2.out; omega
                    case rel => exact ⟨(y106), (wrap64 (x27_2 + 1)), (by first | rfl | (simp; done) | (simp [*]; done)), H', ⟨by have := HK1.out; have := HK2.out; omega⟩, ⟨by (with_reducible repeat (first | apply Kd.R_alloc | apply Kd.R_drewN | apply Kd.R_drew)); exact HO108.out⟩, ⟨by repeat (first | (with_reducible first | exact HB.out | apply below_alloc | apply pw_below_drewN | apply below_drew1) | exact HB.out)⟩⟩
                  · rw [if_neg c11] at H
                    exact absurd H (by simp)
                · rw [if_neg c10] at H
                  exact absurd H (by simp)
              · rw [if_neg c9] at H
                exact absurd H (by simp)
            · rw [if_neg c8] at H
              have c8b0 : decide (x27_2 < (l0.length : Int)) = false := decide_eq_false c8
              clear c8
              obtain rfl := Option.some.inj H
              go_wp2
              go_ret
              exact ⟨_, by first | rfl | (simp [errW_none, errW_some] <;> rfl) | (simp [*, errW_none, errW_some] <;> rfl), by (with_reducible repeat (first | apply Kd.R_alloc | apply Kd.R_drewN | apply Kd.R_drew)); exact HO_6.out, by repeat (first | (with_reducible first | exact HB.out | apply below_alloc | apply pw_below_drewN | apply below_drew1) | exact HB.out)⟩
end Go.Proofs.Ytpkghpljgjlmjaa.K
/- Inverse of package matrix: its walk. -/
namespace Go.Proofs.Ytpkghpljgjlmjaa.K
open Kin Go.RowKit Go.Proofs.YtpkghpljgjlmjaaW.PrintWords Go.Proofs.YtpkghpljgjlmjaaW.PrintLast Go.Proofs.YtpkghpljgjlmjaaW.PrintMore
attribute [local go_sem] max2_int min2_int max_two min_two max_three min_three max_four min_four   -- for this text's walks alone
set_option linter.unusedVariables false
set_option linter.unusedSimpArgs false

-- NOT PRINTED: function 103 (matrix_elimination_scale)

-- NOT PRINTED: function 104 (matrix_elimination_clear)

-- NOT PRINTED: function 87 (matrix_elimination_run)

-- NOT PRINTED: function 62 (matrix_eliminate)

/-! ### winv: function 42 -/
/-- The rows of an elimination, of the first i the right parts alone. -/
def invU (R : List (List B)) (n i : Nat) : List (List B) := (List.range R.length).map fun a => if a < i then (R.getD a []).drop n else R.getD a []
theorem invU_length (R : List (List B)) (n i : Nat) : (invU R n i).length = R.length := by simp [invU]
theorem invU_get (R : List (List B)) (n i : Nat) {a : Nat} (ha : a < R.length) : (invU R n i).getD a [] = if a < i then (R.getD a []).drop n else R.getD a [] := by
  unfold invU
  rw [List.getD_eq_getElem?_getD, List.getElem?_map, List.getElem?_range ha]
  rfl
theorem invU_zero (R : List (List B)) (n : Nat) : invU R n 0 = R := by
  refine List.ext_getElem (invU_length R n 0) (fun a h1 h2 => ?_)
  simp only [invU, List.getElem_map, List.getElem_range]
  rw [if_neg (by omega), List.getD_eq_getElem?_getD, List.getElem?_eq_getElem h2]
  rfl
theorem invU_step (R : List (List B)) (n i : Nat) (hi : i < R.length) : (invU R n i).set i ((R.getD i []).drop n) = invU R n (i + 1) := by
  refine List.ext_getElem (by rw [List.length_set, invU_length, invU_length]) (fun a h1 h2 => ?_)
  rw [List.getElem_set]
  simp only [invU, List.getElem_map, List.getElem_range]
  by_cases ha : i = a
  · subst ha
    rw [if_pos rfl, if_pos (by omega)]
  · rw [if_neg ha]
    by_cases h : a < i
    · rw [if_pos h, if_pos (by omega)]
    · rw [if_neg h, if_neg (by omega)]
def invE (r1 : List (List Int)) (n : Nat) : ES := elimRun (toB2 r1) n
def invCode (r1 : List (List Int)) (r2 : Int) (n : Nat) : Int := if r2 = 0 then (if (invE r1 n).2.1.length < n then 4 else 0) else r2
def invVal (r1 : List (List Int)) (r2 : Int) (n : Nat) : List (List Int) := if r2 = 0 then (if (invE r1 n).2.1.length < n then [] else up2 (invU (invE r1 n).1 n n)) else []
def winv.l0 : Nat → List (List Int) → List (List Int) → List (List Int) → Int → Int → Option ((List (List Int)) × Int)
  | 0, _, _, _, _, _ => none
  | k + 1, x0, x5, x18, x19, x20 => if x20 < x19 then (if 0 ≤ x20 then (if x20 < (x18.length : Int) then (if x20 < (x0.length : Int) then ((slices_Concat_byte_byte.f k (([rd_L1 x0 x20, rd_L1 x18 x20] : List (List Int)))).bind fun t136 => (if x20 < (x5.length : Int) then (winv.l0 k x0 (x5.set (x20 : Int).toNat t136) x18 x19 (wrap64 (x20 + 1))) else (none))) else (none)) else (none)) else (none)) else (some (x5, 0))
def winv.f (k : Nat) (l0 : List (List Int)) : Option ((List (List Int)) × Int) := (matrix_square.f l0).bind fun t124 => (if t124 = true then (if 0 ≤ (l0.length : Int) then (if ((l0.length : Int) : Int).toNat ≤ 11728124029610 then ((matrix_Identity.f k (l0.length : Int)).bind fun t128 => (winv.l0 k l0 (List.replicate ((l0.length : Int) : Int).toNat []) t128 (t128.length : Int) 0)) else (none)) else (none)) else (some (([] : List (List Int)), 1)))
def f42.T16 : Bool × List (List Nat × List Nat) := (true, [([], []), ([0], [0]), ([1], [1]), ([2], [2]), ([], []), ([], []), ([5], [5]), ([6], [6]), ([7], [7]), ([], []), ([8, 9], [8, 9]), ([10], [10]), ([], []), ([11, 12], [11, 12]), ([13], [13]), ([3, 4, 0, 1, 2, 3, 4, 5, 6, 7, 8, 9, 10, 11, 12, 13, 14], [3, 4]), ([15, 14, 14, 0, 1, 2, 3, 4, 5, 6, 7, 8, 9, 10, 11, 12, 13, 14], [14, 15])])
def f42.B16 : List Nat := [0, 1, 3, 7, 0, 0, 32, 96, 224, 0, 992, 2016, 0, 8160, 16352, 32767, 65535]
theorem f42.tab16 : rtab .any (opsOf Try.f42 16) = f42.T16 := by kernel_rfl
theorem f42.bits16 : waitsOk f42.T16.2 f42.B16 = true := by kernel_rfl
set_option maxHeartbeats 8000000 in
set_option maxRecDepth 100000 in
theorem inverse_calls (k : Nat) (P0_ : Nat → Prop) (A0 : Option Addr) (c0 : Nat) (l0 : List (List Int)) (r1 : List (List Int)) (r2 : Int) (w : World) (hs0 : Kd.V (Kd.slice 5 (Kd.int .u8)) 34 w w.heap.size (fun k_ => P0_ k_) (.slice A0 l0.length c0) l0)
    (hW : r2 = 0 → ∃ W : List (List B), r1 = up2 W ∧ W.length = l0.length ∧ l0.length ≤ 32 ∧ ∀ r ∈ W, r.length = l0.length + l0.length) (h : winv.f k l0 = some (r1, r2)) :
    Calls Try.prog 42 #[.slice A0 l0.length c0] w fun e w' => ∃ v0_ : Value, e = .returned (.tuple #[v0_, .int .i64 (invCode r1 r2 l0.length)]) ∧ Kd.S (Kd.slice 5 (Kd.int .u8)) 34 w' w.heap.size (fun _ => True) v0_ (invVal r1 r2 l0.length) ∧ Below w.heap.size w w' := by
  have HW := Aside0.mk hW
  clear hW
  have HO0 := Aside0.mk (show Kd.V (Kd.slice 5 (Kd.int .u8)) 34 w w.heap.size (fun k_ => (P0_ k_ ∨ w.heap.size ≤ k_)) (.slice A0 l0.length c0) l0 from Kd.V_mono hs0 (fun k_ hk => .inl hk))
  have HB := Aside0.mk (Below.refl w.heap.size w)
  have H : ((matrix_square.f l0).bind fun t124 => (if t124 = true then (if 0 ≤ (l0.length : Int) then (if ((l0.length : Int) : Int).toNat ≤ 11728124029610 then ((matrix_Identity.f k (l0.length : Int)).bind fun t128 => (winv.l0 k l0 (List.replicate ((l0.length : Int) : Int).toNat []) t128 (t128.length : Int) 0)) else (none)) else (none)) else (some (([] : List (List Int)), 1)))) = some (r1, r2) := h
  clear h
  replace H := Option.bind_eq_some_iff.mp H
  obtain ⟨t124, A20, H⟩ := H
  replace H : (if t124 = true then (if 0 ≤ (l0.length : Int) then (if ((l0.length : Int) : Int).toNat ≤ 11728124029610 then ((matrix_Identity.f k (l0.length : Int)).bind fun t128 => (winv.l0 k l0 (List.replicate ((l0.length : Int) : Int).toNat []) t128 (t128.length : Int) 0)) else (none)) else (none)) else (some (([] : List (List Int)), 1))) = some (r1, r2) := H
  have A2 := Aside0.mk A20
  clear A20
  by_cases c3 : t124 = true
  · subst c3
    have H1 : (if 0 ≤ (l0.length : Int) then (if ((l0.length : Int) : Int).toNat ≤ 11728124029610 then ((matrix_Identity.f k (l0.length : Int)).bind fun t128 => (winv.l0 k l0 (List.replicate ((l0.length : Int) : Int).toNat []) t128 (t128.length : Int) 0)) else (none)) else (none)) = some (r1, r2) := by rw [if_pos rfl] at H; exact H
    clear H
    have H := H1
    clear H1
    by_cases c4 : 0 ≤ (l0.length : Int)
    · rw [if_pos c4] at H
      have c4b0 := eq_true c4
      have c4b1 : decide (0 ≤ (l0.length : Int)) = true := decide_eq_true c4
      clear c4
      by_cases c5 : ((l0.length : Int) : Int).toNat ≤ 11728124029610
      · rw [if_pos c5] at H
        have c5b0 := eq_true c5
        have c5b1 : decide (((l0.length : Int) : Int).toNat ≤ 11728124029610) = true := decide_eq_true c5
        clear c5
        obtain ⟨y125, hy125⟩ : ∃ y_ : List (List Int), y_ = (List.replicate ((l0.length : Int) : Int).toNat []) := ⟨_, rfl⟩
        replace H : ((matrix_Identity.f k (l0.length : Int)).bind fun t128 => (winv.l0 k l0 y125 t128 (t128.length : Int) 0)) = some (r1, r2) := by first | (rw [hy125]; with_reducible exact H) | (have H2_ := (Option.bind_some _ _).symm.trans H; rw [hy125]; with_reducible exact H2_) | (have H2_ := (Option.bind_some _ _).symm.trans H; with_reducible exact H2_) | with_reducible exact H | (rw [hy125]; exact H) | exact H
        have Ny125 := Aside0.mk hy125
        clear hy125
        replace H := Option.bind_eq_some_iff.mp H
        obtain ⟨t128, A60, H⟩ := H
        replace H : (winv.l0 k l0 y125 t128 (t128.length : Int) 0) = some (r1, r2) := H
        have A6 := Aside0.mk A60
        clear A60
        have H' := Aside0.mk H
        clear H
        go_enter Try.func42, Try.ntmps42
        go_wp2_with (first | ((with_reducible refine gate_callee (f := 67) rfl ?_); refine goesL_ (some 11) rfl rfl Try.func67 (by kernel_rfl) rfl #[.slice A0 l0.length c0] rfl (by (try simp only [List.map_toArray, List.map_cons, List.map_nil]); first | done | rfl | (simp only [List.length_drop, List.length_take]; rfl)) ?_; (with_reducible refine (matrix_square.calls _ _ l0 true _ ?side1 ?side2 A2.out).mono ?_); (case side1 => repeat (first | exact (Kd.V_reads' HO0.out).2.2 | (with_reducible refine Kd.C_alloc ?_ _) | (with_reducible refine Kd.C_drewN ?_ _) | (with_reducible refine Kd.C_drew ?_))); (case side2 => exact (Kd.V_reads' HO0.out).2.1); rintro e w7 ⟨rfl, hb⟩; refine ⟨_, rfl, ?_⟩; have n0_ := Aside0.mk (Kd.V_below (by (with_reducible repeat (first | apply Kd.V_alloc | apply Kd.V_drewN | apply Kd.V_drew)); exact HO0.out) hb); have n1_ := Aside0.mk (below_step (by repeat (first | (with_reducible first | exact HB.out | apply below_alloc | apply pw_below_drewN | apply below_drew1) | exact HB.out)) hb); clear HO0; clear HB; have HO0 := n0_; have HB := n1_; clear n0_ n1_; (try clear hb); (try clear hb2); (try clear hk); (try clear hi)) | ((with_reducible refine gate_dst (N := 16) rfl ?_); refine Kd.N_make (Kd.slice 5 (Kd.int .u8)) _ 34 rfl (N' := 16) rfl 22 _ _ rfl (l0.length : Int) rfl rfl Try.underlying22 (.slice none 0 0) 24 info34 rfl (by decide) (by omega) [] (ok := fun k_ => w7.heap.size ≤ k_) (okp := fun _ => False) (Kd.FK_slice_mk (Nat.le_refl _) (Kd.F_nil _ _ _)) (fun _ hk => hk.elim) (Nat.le_refl _) (of_decide_eq_true (by first | (with_reducible assumption) | assumption)) (Nat.le_trans (Nat.mul_le_mul_right _ (of_decide_eq_true (by first | (with_reducible assumption) | assumption) : (l0.length : Int).toNat ≤ 11728124029610)) (by omega)) (Below.refl _ _) (Nat.le_refl _) ?_; intro v126 w8 ho9 hb hg_ hnew_; clear hg_ hnew_; (first | rw [← Ny125.out] at ho9 | (simp only [Int.reduceToNat] at ho9; rw [← Ny125.out] at ho9)); have n0_ := Aside0.mk (Kd.V_elder' (by (with_reducible repeat (first | apply Kd.V_alloc | apply Kd.V_drewN | apply Kd.V_drew)); exact HO0.out) (by first | exact Kd.N_base ho9 | exact Kd.S_base ho9) hb); have n1_ := Aside0.mk (Kd.N_lower (Kd.N_mono (ok' := fun k_ => (P0_ k_ ∨ w.heap.size ≤ k_)) ho9 (fun k_ hk_ => (.inr (Nat.le_trans (below_size (by repeat (first | (with_reducible first | exact HB.out | apply below_alloc | apply pw_below_drewN | apply below_drew1) | exact HB.out))) hk_)))) (below_size (by repeat (first | (with_reducible first | exact HB.out | apply below_alloc | apply pw_below_drewN | apply below_drew1) | exact HB.out)))); have n2_ := Aside0.mk (below_step (by repeat (first | (with_reducible first | exact HB.out | apply below_alloc | apply pw_below_drewN | apply below_drew1) | exact HB.out)) hb); clear HO0; clear HB; have HO0 := n0_; have HO127 := n1_; have HB := n2_; clear n0_ n1_ n2_; clear hb ho9) | ((with_reducible refine gate_callee (f := 48) rfl ?_); refine goesL_ (some 18) rfl rfl Try.func48 (by kernel_rfl) rfl #[.int .i64 (l0.length : Int)] rfl (by (try simp only [List.map_toArray, List.map_cons, List.map_nil]); first | done | rfl | (simp only [List.length_drop, List.length_take]; rfl)) ?_; (with_reducible refine (matrix_Identity.calls k (l0.length : Int) t128 _ A6.out).mono ?_); rintro e w10 ⟨v129, rfl, ho0, hb⟩; refine ⟨_, rfl, ?_⟩; have n0_ := Aside0.mk (Kd.V_elder' (by (with_reducible repeat (first | apply Kd.V_alloc | apply Kd.V_drewN | apply Kd.V_drew)); exact HO0.out) (by first | exact Kd.N_base ho0 | exact Kd.S_base ho0) hb); have n1_ := Aside0.mk (Kd.N_elder' (by (with_reducible repeat (first | apply Kd.N_alloc | apply Kd.N_drewN | apply Kd.N_drew)); exact HO127.out) (by first | exact Kd.N_base ho0 | exact Kd.S_base ho0) hb); have n2_ := Aside0.mk (Kd.N_lower (Kd.N_mono (ok' := fun k_ => (P0_ k_ ∨ w.heap.size ≤ k_) ∧ some k_ ≠ (v126 : Value).ownBlock) (Kd.S_N (Kd.S_bound ho0)) (fun k_ hk_ => ⟨(.inr (Nat.le_trans (below_size (by repeat (first | (with_reducible first | exact HB.out | apply below_alloc | apply pw_below_drewN | apply below_drew1) | exact HB.out))) hk_.2.1)), (Kd.fresh' (Kd.N_lt (by (with_reducible repeat (first | apply Kd.N_alloc | apply Kd.N_drewN | apply Kd.N_drew)); exact HO127.out)) k_ hk_.2.1)⟩)) (below_size (by repeat (first | (with_reducible first | exact HB.out | apply below_alloc | apply pw_below_drewN | apply below_drew1) | exact HB.out)))); have n3_ := Aside0.mk (below_step (by repeat (first | (with_reducible first | exact HB.out | apply below_alloc | apply pw_below_drewN | apply below_drew1) | exact HB.out)) hb); clear HO0; clear HO127; clear HB; have HO0 := n0_; have HO127 := n1_; have HO130 := n2_; have HB := n3_; clear n0_ n1_ n2_ n3_; (try clear hb); (try clear hb2); (try clear hk); (try clear hi); (try clear ho0); obtain ⟨Ao11, co11, eo11⟩ := Kd.N_slice HO130.out; subst eo11))
        go_loopg [20] k (fun kq v20 w' => ∃ (x5_1 : List (List Int)) (x20_1 : Int), v20 = .int .i64 x20_1 ∧ Aside0 (winv.l0 kq l0 x5_1 t128 (t128.length : Int) x20_1 = some (r1, r2)) ∧ Aside0 (kq ≤ k) ∧ Aside0 (Kd.V (Kd.slice 5 (Kd.int .u8)) 34 w' w.heap.size (fun k_ => (P0_ k_ ∨ w.heap.size ≤ k_) ∧ some k_ ≠ (v126 : Value).ownBlock ∧ some k_ ≠ ((.slice Ao11 t128.length co11) : Value).ownBlock) (.slice A0 l0.length c0) l0) ∧ Aside0 (Kd.N (Kd.slice 5 (Kd.int .u8)) 34 w' w.heap.size (fun k_ => (P0_ k_ ∨ w.heap.size ≤ k_) ∧ some k_ ≠ ((.slice Ao11 t128.length co11) : Value).ownBlock) v126 x5_1) ∧ Aside0 (Kd.N (Kd.slice 5 (Kd.int .u8)) 34 w' w.heap.size (fun k_ => (P0_ k_ ∨ w.heap.size ≤ k_) ∧ some k_ ≠ (v126 : Value).ownBlock) (.slice Ao11 t128.length co11) t128) ∧ Aside0 (Below w.heap.size w w'))
        case atStart => exact ⟨(y125), (0), (by first | rfl | (simp; done) | (simp [*]; done)), H', ⟨Nat.le_refl _⟩, ⟨by (with_reducible repeat (first | apply Kd.V_alloc | apply Kd.V_drewN | apply Kd.V_drew)); exact Kd.V_mono HO0.out (fun _ hk => ⟨hk.1.1, ⟨hk.1.2, hk.2⟩⟩)⟩, ⟨by (with_reducible repeat (first | apply Kd.N_alloc | apply Kd.N_drewN | apply Kd.N_drew)); exact HO127.out⟩, ⟨by (with_reducible repeat (first | apply Kd.N_alloc | apply Kd.N_drewN | apply Kd.N_drew)); exact HO130.out⟩, ⟨by repeat (first | (with_reducible first | exact HB.out | apply below_alloc | apply pw_below_drewN | apply below_drew1) | exact HB.out)⟩⟩
        case round =>
          clear H'
          try clear p2
          try clear c3
          try clear c4
          try clear c4b0
          try clear c4b1
          try clear c5
          try clear c5b0
          try clear c5b1
          try clear c6
          obtain ⟨x5_1, x20_1, rfl, HA, HK1, HO_0, HO_5, HO_18, HB⟩ := hrel
          cases gk with
          | zero => exact absurd HA.out (by simp [winv.l0])
          | succ k1 =>
            have H := HA.out
            clear HA
            simp only [winv.l0] at H
            by_cases c12 : x20_1 < (t128.length : Int)
            · rw [if_pos c12] at H
              have c12b0 : decide (x20_1 < (t128.length : Int)) = true := decide_eq_true c12
              clear c12
              by_cases c13 : 0 ≤ x20_1
              · rw [if_pos c13] at H
                have c13b0 : decide (0 ≤ x20_1) = true := decide_eq_true c13
                clear c13
                by_cases c14 : x20_1 < (t128.length : Int)
                · rw [if_pos c14] at H
                  have c14b0 : decide (x20_1 < (t128.length : Int)) = true := decide_eq_true c14
                  clear c14
                  by_cases c15 : x20_1 < (l0.length : Int)
                  · rw [if_pos c15] at H
                    have c15b0 : decide (x20_1 < (l0.length : Int)) = true := decide_eq_true c15
                    clear c15
                    obtain ⟨y133, hy133⟩ : ∃ y_ : List (List Int), y_ = (([rd_L1 l0 x20_1, rd_L1 t128 x20_1] : List (List Int))) := ⟨_, rfl⟩
                    replace H : ((slices_Concat_byte_byte.f k1 y133).bind fun t136 => (if x20_1 < (x5_1.length : Int) then (winv.l0 k1 l0 (x5_1.set (x20_1 : Int).toNat t136) t128 (t128.length : Int) (wrap64 (x20_1 + 1))) else (none))) = some (r1, r2) := by first | (rw [hy133]; with_reducible exact H) | (have H2_ := (Option.bind_some _ _).symm.trans H; rw [hy133]; with_reducible exact H2_) | (have H2_ := (Option.bind_some _ _).symm.trans H; with_reducible exact H2_) | with_reducible exact H | (rw [hy133]; exact H) | exact H
                    have Ny133 := Aside0.mk hy133
                    clear hy133
                    replace H := Option.bind_eq_some_iff.mp H
                    obtain ⟨t136, A160, H⟩ := H
                    replace H : (if x20_1 < (x5_1.length : Int) then (winv.l0 k1 l0 (x5_1.set (x20_1 : Int).toNat t136) t128 (t128.length : Int) (wrap64 (x20_1 + 1))) else (none)) = some (r1, r2) := H
                    have A16 := Aside0.mk A160
                    clear A160
                    by_cases c17 : x20_1 < (x5_1.length : Int)
                    · rw [if_pos c17] at H
                      have c17b0 : decide (x20_1 < (x5_1.length : Int)) = true := decide_eq_true c17
                      clear c17
                      obtain ⟨y139, hy139⟩ : ∃ y_ : List (List Int), y_ = (x5_1.set (x20_1 : Int).toNat t136) := ⟨_, rfl⟩
                      replace H : (winv.l0 k1 l0 y139 t128 (t128.length : Int) (wrap64 (x20_1 + 1))) = some (r1, r2) := by first | (rw [hy139]; with_reducible exact H) | (have H2_ := (Option.bind_some _ _).symm.trans H; rw [hy139]; with_reducible exact H2_) | (have H2_ := (Option.bind_some _ _).symm.trans H; with_reducible exact H2_) | with_reducible exact H | (rw [hy139]; exact H) | exact H
                      have Ny139 := Aside0.mk hy139
                      clear hy139
                      have H' := Aside0.mk H
                      clear H
                      have p131 : 0 ≤ (x20_1 : Int) := of_decide_eq_true (by first | (with_reducible assumption) | assumption)
                      have q131 : x20_1 < (t128.length : Int) := of_decide_eq_true (by first | (with_reducible assumption) | assumption)
                      obtain ⟨ad131, A131_0, c131_0, e131, hx131_0, hl131_0, hi131_0⟩ := at_L1 (Kd.N_reads' HO_18.out).2.2 x20_1 p131 q131
                      cases e131
                      obtain ⟨ce131, hce131, hMe131, hcc131⟩ := Kd.N_get HO_18.out [] x20_1 p131 (by first | exact q131 | exact of_decide_eq_true (by first | (with_reducible assumption) | assumption) | (have e_ := (Kd.N_reads' HO_18.out).1; omega))
                      obtain ⟨ua131_0, uc131_0, rfl, ul131_0, ge131_0⟩ := Kd.FK_slice_open hMe131
                      have hv131_0 := hcc131 0 _ rfl
                      rw [Nat.add_zero, show ((Kd.slice 5 (Kd.int .u8))).sz = 1 from rfl, Nat.mul_one] at hv131_0
                      replace hv131_0 := Option.some.inj (hv131_0.symm.trans hx131_0)
                      injection hv131_0 with hva_ hvn_ hvc_
                      rw [hva_] at ge131_0
                      rw [hvc_] at ul131_0
                      have HL131_0 := Aside0.mk (show Kd.V (Kd.int .u8) 5 _ w.heap.size _ _ (rd_L1 t128 x20_1) from Kd.V_mk ul131_0 ge131_0)
                      clear hva_ hvn_ hvc_ ge131_0 ul131_0
                      clear hcc131 hce131
                      have HR131_0 := Aside0.mk hi131_0
                      have HC131_0 := Aside0.mk hl131_0
                      clear hi131_0 hl131_0
                      replace p131 := eq_true p131
                      replace q131 := eq_true q131
                      have p132 : 0 ≤ (x20_1 : Int) := of_decide_eq_true (by first | (with_reducible assumption) | assumption)
                      have q132 : x20_1 < (l0.length : Int) := of_decide_eq_true (by first | (with_reducible assumption) | assumption)
                      obtain ⟨ad132, A132_0, c132_0, e132, hx132_0, hl132_0, hi132_0⟩ := at_L1 (Kd.V_reads' HO_0.out).2.2 x20_1 p132 q132
                      cases e132
                      obtain ⟨ce132, hce132, hMe132, hcc132⟩ := Kd.V_get HO_0.out [] x20_1 p132 (by first | exact q132 | exact of_decide_eq_true (by first | (with_reducible assumption) | assumption) | (have e_ := (Kd.V_reads' HO_0.out).1; omega))
                      obtain ⟨ua132_0, uc132_0, rfl, ul132_0, ge132_0⟩ := Kd.FK_slice_open hMe132
                      have hv132_0 := hcc132 0 _ rfl
                      rw [Nat.add_zero, show ((Kd.slice 5 (Kd.int .u8))).sz = 1 from rfl, Nat.mul_one] at hv132_0
                      replace hv132_0 := Option.some.inj (hv132_0.symm.trans hx132_0)
                      injection hv132_0 with hva_ hvn_ hvc_
                      rw [hva_] at ge132_0
                      rw [hvc_] at ul132_0
                      have HL132_0 := Aside0.mk (show Kd.V (Kd.int .u8) 5 _ w.heap.size _ _ (rd_L1 l0 x20_1) from Kd.V_mk ul132_0 ge132_0)
                      clear hva_ hvn_ hvc_ ge132_0 ul132_0
                      clear hcc132 hce132
                      have HR132_0 := Aside0.mk hi132_0
                      have HC132_0 := Aside0.mk hl132_0
                      clear hi132_0 hl132_0
                      replace p132 := eq_true p132
                      replace q132 := eq_true q132
                      go_wp2_with (first | ((with_reducible refine gate_dst (N := 32) rfl ?_); refine Kd.N_lit (Kd.slice 5 (Kd.int .u8)) _ 34 ?hg (N' := 32) ?hd (xs := ([rd_L1 l0 x20_1, rd_L1 t128 x20_1] : List (List Int))) (inner := [.slice A132_0 (rd_L1 l0 x20_1).length c132_0, .slice A131_0 (rd_L1 t128 x20_1).length c131_0]) (ok := (fun k_ => (P0_ k_ ∨ w.heap.size ≤ k_) ∧ some k_ ≠ (v126 : Value).ownBlock ∧ some k_ ≠ (.slice (some ad131) t128.length co11 : Value).ownBlock)) (okp := (fun k_ => (P0_ k_ ∨ w.heap.size ≤ k_) ∧ some k_ ≠ (v126 : Value).ownBlock ∧ some k_ ≠ (.slice (some ad131) t128.length co11 : Value).ownBlock)) ?hr ?hp (fun _ hk => hk) ((show ∀ k_, wr.heap.size ≤ k_ → (fun k_ => (P0_ k_ ∨ w.heap.size ≤ k_) ∧ some k_ ≠ (v126 : Value).ownBlock ∧ some k_ ≠ (.slice (some ad131) t128.length co11 : Value).ownBlock) k_ from fun k_ hk => ⟨(.inr (Nat.le_trans (below_size (by repeat (first | (with_reducible first | exact HB.out | apply below_alloc | apply pw_below_drewN | apply below_drew1) | exact HB.out))) hk)), Kd.fresh' (Kd.N_lt (by (with_reducible repeat (first | apply Kd.N_alloc | apply Kd.N_drewN | apply Kd.N_drew)); exact HO_5.out)) k_ hk, Kd.fresh' (Kd.N_lt (by (with_reducible repeat (first | apply Kd.N_alloc | apply Kd.N_drewN | apply Kd.N_drew)); exact HO_18.out)) k_ hk⟩) _ (Nat.le_refl _)) (Below.refl _ _) (Nat.le_refl _) (by simp) ?_; (case hd => rfl); (case hg => rfl); (case hr => first | (go_simp; done) | (go_simp; rfl)); (case hp => exact (Reps.one (show Kd.FK (Kd.slice 5 (Kd.int .u8)) _ _ (rd_L1 l0 x20_1) [.slice A132_0 (rd_L1 l0 x20_1).length c132_0] from (Kd.FK_slice_mk (Kd.V_reads' (Kd.V_mono (ok' := (fun k_ => (P0_ k_ ∨ w.heap.size ≤ k_) ∧ some k_ ≠ (v126 : Value).ownBlock ∧ some k_ ≠ (.slice (some ad131) t128.length co11 : Value).ownBlock)) (HL132_0.out) (fun k_ hk => ⟨hk.1, ⟨hk.2.1, hk.2.2⟩⟩))).2.1 (Kd.V_F (Kd.V_mono (ok' := (fun k_ => (P0_ k_ ∨ w.heap.size ≤ k_) ∧ some k_ ≠ (v126 : Value).ownBlock ∧ some k_ ≠ (.slice (some ad131) t128.length co11 : Value).ownBlock)) (HL132_0.out) (fun k_ hk => ⟨hk.1, ⟨hk.2.1, hk.2.2⟩⟩))))) (Reps.one (show Kd.FK (Kd.slice 5 (Kd.int .u8)) _ _ (rd_L1 t128 x20_1) [.slice A131_0 (rd_L1 t128 x20_1).length c131_0] from (Kd.FK_slice_mk (Kd.V_reads' (Kd.V_mono (ok' := (fun k_ => (P0_ k_ ∨ w.heap.size ≤ k_) ∧ some k_ ≠ (v126 : Value).ownBlock ∧ some k_ ≠ (.slice (some ad131) t128.length co11 : Value).ownBlock)) (HL131_0.out) (fun k_ hk => ⟨hk.1.1, ⟨hk.1.2, hk.2⟩⟩))).2.1 (Kd.V_F (Kd.V_mono (ok' := (fun k_ => (P0_ k_ ∨ w.heap.size ≤ k_) ∧ some k_ ≠ (v126 : Value).ownBlock ∧ some k_ ≠ (.slice (some ad131) t128.length co11 : Value).ownBlock)) (HL131_0.out) (fun k_ hk => ⟨hk.1.1, ⟨hk.1.2, hk.2⟩⟩))))) (Reps.none _ _)))); intro v134 w19 ho20 hb hg_ hnew_; clear hg_ hnew_; (first | rw [← Ny133.out] at ho20 | (simp only [Int.reduceToNat] at ho20; rw [← Ny133.out] at ho20)); have n0_ := Aside0.mk (Kd.V_elder' (by (with_reducible repeat (first | apply Kd.V_alloc | apply Kd.V_drewN | apply Kd.V_drew)); exact HO_0.out) (by first | exact Kd.N_base ho20 | exact Kd.S_base ho20) hb); have n1_ := Aside0.mk (Kd.N_elder' (by (with_reducible repeat (first | apply Kd.N_alloc | apply Kd.N_drewN | apply Kd.N_drew)); exact HO_5.out) (by first | exact Kd.N_base ho20 | exact Kd.S_base ho20) hb); have n2_ := Aside0.mk (Kd.N_elder' (by (with_reducible repeat (first | apply Kd.N_alloc | apply Kd.N_drewN | apply Kd.N_drew)); exact HO_18.out) (by first | exact Kd.N_base ho20 | exact Kd.S_base ho20) hb); have n3_ := Aside0.mk (Kd.V_elder' (by (with_reducible repeat (first | apply Kd.V_alloc | apply Kd.V_drewN | apply Kd.V_drew)); exact HL131_0.out) (by first | exact Kd.N_base ho20 | exact Kd.S_base ho20) hb); have n4_ := Aside0.mk (Kd.V_elder' (by (with_reducible repeat (first | apply Kd.V_alloc | apply Kd.V_drewN | apply Kd.V_drew)); exact HL132_0.out) (by first | exact Kd.N_base ho20 | exact Kd.S_base ho20) hb); have n5_ := Aside0.mk (Kd.N_lower ho20 (below_size (by repeat (first | (with_reducible first | exact HB.out | apply below_alloc | apply pw_below_drewN | apply below_drew1) | exact HB.out)))); have n6_ := Aside0.mk (Kd.C_below (by repeat (first | (with_reducible exact HR131_0.out) | (with_reducible refine Kd.C_alloc ?_ _) | (with_reducible refine Kd.C_drewN ?_ _) | (with_reducible refine Kd.C_drew ?_) | exact HR131_0.out)) hb); have n7_ := Aside0.mk (Kd.C_below (by repeat (first | (with_reducible exact HR132_0.out) | (with_reducible refine Kd.C_alloc ?_ _) | (with_reducible refine Kd.C_drewN ?_ _) | (with_reducible refine Kd.C_drew ?_) | exact HR132_0.out)) hb); have n8_ := Aside0.mk (below_step (by repeat (first | (with_reducible first | exact HB.out | apply below_alloc | apply pw_below_drewN | apply below_drew1) | exact HB.out)) hb); clear HO_0; clear HO_5; clear HO_18; clear HL131_0; clear HL132_0; clear HR131_0; clear HR132_0; clear HB; have HO_0 := n0_; have HO_5 := n1_; have HO_18 := n2_; have HL131_0 := n3_; have HL132_0 := n4_; have HO135 := n5_; have HR131_0 := n6_; have HR132_0 := n7_; have HB := n8_; clear n0_ n1_ n2_ n3_ n4_ n5_ n6_ n7_ n8_; clear hb ho20; obtain ⟨Ao21, co21, eo21⟩ := Kd.N_slice HO135.out; subst eo21) | ((with_reducible refine gate_callee (f := 74) rfl ?_); refine goesL_ (some 33) rfl rfl Try.func74 (by kernel_rfl) rfl #[.slice Ao21 y133.length co21] rfl (by (try simp only [List.map_toArray, List.map_cons, List.map_nil]); first | done | rfl | (simp only [List.length_drop, List.length_take]; rfl)) ?_; (with_reducible refine (slices_Concat_byte_byte.calls k1 _ _ y133 t136 _ ?side1 ?side2 A16.out).mono ?_); (case side1 => repeat (first | exact (Kd.N_reads' HO135.out).2.2 | (with_reducible refine Kd.C_alloc ?_ _) | (with_reducible refine Kd.C_drewN ?_ _) | (with_reducible refine Kd.C_drew ?_))); (case side2 => exact (Kd.N_reads' HO135.out).2.1); rintro e w22 ⟨v137, rfl, ho0, hb⟩; obtain ⟨A137, c137, rfl⟩ := Kd.R_slice ho0; refine ⟨_, rfl, ?_⟩; have n0_ := Aside0.mk (Kd.V_elder' (by (with_reducible repeat (first | apply Kd.V_alloc | apply Kd.V_drewN | apply Kd.V_drew)); exact HO_0.out) (Kd.R_base ho0) hb); have n1_ := Aside0.mk (Kd.N_elder' (by (with_reducible repeat (first | apply Kd.N_alloc | apply Kd.N_drewN | apply Kd.N_drew)); exact HO_5.out) (Kd.R_base ho0) hb); have n2_ := Aside0.mk (Kd.N_elder' (by (with_reducible repeat (first | apply Kd.N_alloc | apply Kd.N_drewN | apply Kd.N_drew)); exact HO_18.out) (Kd.R_base ho0) hb); have n3_ := Aside0.mk (Kd.V_elder' (by (with_reducible repeat (first | apply Kd.V_alloc | apply Kd.V_drewN | apply Kd.V_drew)); exact HL131_0.out) (Kd.R_base ho0) hb); have n4_ := Aside0.mk (Kd.V_elder' (by (with_reducible repeat (first | apply Kd.V_alloc | apply Kd.V_drewN | apply Kd.V_drew)); exact HL132_0.out) (Kd.R_base ho0) hb); have n5_ := Aside0.mk (Kd.N_elder' (by (with_reducible repeat (first | apply Kd.N_alloc | apply Kd.N_drewN | apply Kd.N_drew)); exact HO135.out) (Kd.R_base ho0) hb); have n6_ := Aside0.mk (Kd.R_lower (Kd.R_newM (M := fun k_ => (w.heap.size ≤ k_)) ho0 (below_size (by repeat (first | (with_reducible first | exact HB.out | apply below_alloc | apply pw_below_drewN | apply below_drew1) | exact HB.out))) (fun k_ h_ => h_)) (below_size (by repeat (first | (with_reducible first | exact HB.out | apply below_alloc | apply pw_below_drewN | apply below_drew1) | exact HB.out)))); have n7_ := Aside0.mk (Kd.C_below (by repeat (first | (with_reducible exact HR131_0.out) | (with_reducible refine Kd.C_alloc ?_ _) | (with_reducible refine Kd.C_drewN ?_ _) | (with_reducible refine Kd.C_drew ?_) | exact HR131_0.out)) hb); have n8_ := Aside0.mk (Kd.C_below (by repeat (first | (with_reducible exact HR132_0.out) | (with_reducible refine Kd.C_alloc ?_ _) | (with_reducible refine Kd.C_drewN ?_ _) | (with_reducible refine Kd.C_drew ?_) | exact HR132_0.out)) hb); have n9_ := Aside0.mk (below_step (by repeat (first | (with_reducible first | exact HB.out | apply below_alloc | apply pw_below_drewN | apply below_drew1) | exact HB.out)) hb); clear HO_0; clear HO_5; clear HO_18; clear HL131_0; clear HL132_0; clear HO135; clear HR131_0; clear HR132_0; clear HB; have HO_0 := n0_; have HO_5 := n1_; have HO_18 := n2_; have HL131_0 := n3_; have HL132_0 := n4_; have HO135 := n5_; have HO138 := n6_; have HR131_0 := n7_; have HR132_0 := n8_; have HB := n9_; clear n0_ n1_ n2_ n3_ n4_ n5_ n6_ n7_ n8_ n9_; (try clear hb); (try clear hb2); (try clear hk); (try clear hi); (try clear ho0); have p18 : 0 ≤ (x20_1 : Int) := of_decide_eq_true (by first | (with_reducible assumption) | assumption); have q18 : (x20_1 : Int) < ((x5_1.length : Int) : Int) := of_decide_eq_true (by first | (with_reducible assumption) | assumption); obtain ⟨go18, co18, eo18, gb18, gl18, cl18, HG18⟩ := Kd.N_form HO_5.out (by omega); (first | cases eo18 | (injection eo18 with ea_ en_ ec_; (first | subst ea_ | (injection ea_ with ea_; subst ea_)); subst ec_; clear en_)); have GB18 := Aside0.mk gb18; have GG18 := Aside0.mk HG18; clear gb18 gl18 HG18; obtain ⟨ce18, hcl18, hM18, hcc18, hfr18⟩ := Kd.N_elem HO_5.out [] (x20_1 : Int) p18 q18; obtain ⟨ua18_0, uc18_0, rfl, ul18_0, ge18_0⟩ := Kd.FK_slice_open hM18; have hx18_0 := hcc18 0 _ rfl; have hf18_0 := hfr18 0; (try simp only [show ((Kd.slice 5 (Kd.int .u8))).sz = 1 from rfl, Nat.mul_one, Nat.add_zero] at hx18_0); (try simp only [show ((Kd.slice 5 (Kd.int .u8))).sz = 1 from rfl, Nat.mul_one, Nat.add_zero] at hf18_0); clear hcl18 hcc18 hfr18; (try clear hM18); replace p18 := eq_true p18; replace q18 := eq_true q18; have n_ := Aside0.mk (Kd.N_mono (ok' := (fun k_ => (P0_ k_ ∨ w.heap.size ≤ k_) ∧ some k_ ≠ (.slice (some ad131) t128.length co11 : Value).ownBlock ∧ some k_ ≠ (.slice Ao21 y133.length co21 : Value).ownBlock ∧ some k_ ≠ ((Value.slice A137 t136.length c137) : Value).ownBlock)) HO_5.out (fun k_ hk => ⟨hk.1.1.1, ⟨hk.1.1.2, ⟨hk.1.2, hk.2⟩⟩⟩)); clear HO_5; have HO_5 := n_; clear n_; have HX23 := Aside0.mk (show Kd.N (Kd.slice 5 (Kd.int .u8)) 34 w22 w.heap.size (fun k_ => (P0_ k_ ∨ w.heap.size ≤ k_) ∧ some k_ ≠ (.slice (some ad131) t128.length co11 : Value).ownBlock ∧ some k_ ≠ (.slice Ao21 y133.length co21 : Value).ownBlock) (.slice (some ⟨go18, 0, none⟩) x5_1.length co18) x5_1 from (by (with_reducible repeat (first | apply Kd.N_alloc | apply Kd.N_drewN | apply Kd.N_drew)); exact Kd.N_mono HO_5.out (fun _ hk => ⟨hk.1, ⟨hk.2.1, hk.2.2.1⟩⟩))); obtain ⟨ce23, hcl23, hM23, hcc23, hfr23⟩ := Kd.N_elem HX23.out [] (x20_1 : Int) (of_decide_eq_true (by first | (with_reducible assumption) | assumption)) (by have h_ : (x20_1 : Int) < ((x5_1.length : Int) : Int) := of_decide_eq_true (by first | (with_reducible assumption) | assumption); first | exact h_ | (have e_ := (Kd.N_reads' HO_5.out).1; omega) | simpa using h_); obtain ⟨ua23_0, uc23_0, rfl, ul23_0, ge23_0⟩ := Kd.FK_slice_open hM23; have HO138a := (Kd.R_apart' (d := Kd.int .u8) (e := 5) (Kd.R_apart' (d := Kd.int .u8) (e := 5) (Kd.R_apart' (d := Kd.int .u8) (e := 5) (HO138.out) (Kd.N_typed HO_18.out) (by decide)) (Kd.N_typed HO135.out) (by decide)) (Kd.N_typed HO_5.out) (by decide)); have HP23 := Kd.N_seg HX23.out (x20_1 : Int) (of_decide_eq_true (by first | (with_reducible assumption) | assumption)) (by have h_ : (x20_1 : Int) < ((x5_1.length : Int) : Int) := of_decide_eq_true (by first | (with_reducible assumption) | assumption); first | exact h_ | (have e_ := (Kd.N_reads' HO_5.out).1; omega) | simpa using h_) (seg := [(Value.slice A137 t136.length c137)]) (j := 0) hcl23 hcc23 (show 1 ≤ 1 from by decide) (x' := t136) (Kd.FK_slice_mk (Kd.R_reads' (Kd.R_mono (ok' := (fun k_ => ((fun k_ => (P0_ k_ ∨ w.heap.size ≤ k_) ∧ some k_ ≠ (.slice (some ad131) t128.length co11 : Value).ownBlock ∧ some k_ ≠ (.slice Ao21 y133.length co21 : Value).ownBlock)) k_ ∧ k_ ≠ go18)) (HO138a) (fun k_ hk => ⟨⟨(.inr (hk.1.1.1.1)), ⟨hk.1.1.2, hk.1.2⟩⟩, fun e_ => (hk.2) (by rw [e_]; rfl)⟩))).2.1 (Kd.R_F (Kd.R_mono (ok' := (fun k_ => ((fun k_ => (P0_ k_ ∨ w.heap.size ≤ k_) ∧ some k_ ≠ (.slice (some ad131) t128.length co11 : Value).ownBlock ∧ some k_ ≠ (.slice Ao21 y133.length co21 : Value).ownBlock)) k_ ∧ k_ ≠ go18)) (HO138a) (fun k_ hk => ⟨⟨(.inr (hk.1.1.1.1)), ⟨hk.1.1.2, hk.1.2⟩⟩, fun e_ => (hk.2) (by rw [e_]; rfl)⟩)))) (fun _ hk => hk); have hx23_0 := hcc23 0 _ rfl; (try simp only [show ((Kd.slice 5 (Kd.int .u8))).sz = 1 from rfl, Nat.mul_one, Nat.add_zero] at hx23_0); have hf23_0 := hfr23 0; (try simp only [show ((Kd.slice 5 (Kd.int .u8))).sz = 1 from rfl, Nat.mul_one, Nat.add_zero] at hf23_0); clear hcl23 hcc23 hfr23; (try clear hM23); (try simp only [show ((Kd.slice 5 (Kd.int .u8))).sz = 1 from rfl, Nat.mul_one, Nat.add_zero] at HP23); (try simp only [show ((Kd.slice 5 (Kd.int .u8))).sz = 1 from rfl, Nat.mul_one, Nat.add_zero] at HP23)) | ((with_reducible refine gate_store (t := 34) (p := 34) rfl ?_); refine store_event (t := 34) (p := 34) (v := ?vo_w24) (w1 := (w22.setCell ⟨go18, (x20_1 : Int).toNat, none⟩ ((Value.slice A137 t136.length c137)))) ?hg ?ho ?hn ?hr ?_; (case ho => rfl); (case hg => rfl); (case hn => rfl); (case hr => first | (go_simp; done) | (go_simp; rfl) | (obtain ⟨A_, c_, e_⟩ : ∃ A_ c_, (Value.slice A137 t136.length c137) = .slice A_ _ c_ := Kd.R_slice (Aside0.out (by assumption)); rw [e_]; go_simp; done) | (obtain ⟨A_, c_, e_⟩ : ∃ A_ c_, (Value.slice A137 t136.length c137) = .slice A_ _ c_ := Kd.R_slice (Aside0.out (by assumption)); rw [e_]; go_simp; rfl)); intro w24 hw; have hg : w22.grownBy w24 (some go18) := (by rw [hw]; exact HP23.2); have hp_ : Kd.N (Kd.slice 5 (Kd.int .u8)) 34 w24 w.heap.size (fun k_ => (P0_ k_ ∨ w.heap.size ≤ k_) ∧ some k_ ≠ (.slice (some ad131) t128.length co11 : Value).ownBlock ∧ some k_ ≠ (.slice Ao21 y133.length co21 : Value).ownBlock) (.slice (some ⟨go18, 0, none⟩) x5_1.length co18) y139 := (by rw [hw, Ny139.out]; exact HP23.1); clear HP23; have n0_ := Aside0.mk (Kd.V_afterv (v := (.slice (some ⟨go18, 0, none⟩) x5_1.length co18)) (v1 := (.slice (some ⟨go18, 0, none⟩) x5_1.length co18)) (ok := (fun k_ => (P0_ k_ ∨ w.heap.size ≤ k_) ∧ some k_ ≠ (.slice (some ad131) t128.length co11 : Value).ownBlock ∧ some k_ ≠ (.slice Ao21 y133.length co21 : Value).ownBlock ∧ some k_ ≠ ((Value.slice A137 t136.length c137) : Value).ownBlock)) (by (with_reducible repeat (first | apply Kd.V_alloc | apply Kd.V_drewN | apply Kd.V_drew)); exact Kd.V_mono HO_0.out (fun _ hk => ⟨⟨hk.1.1.1, ⟨hk.1.1.2.2, ⟨hk.1.2, hk.2⟩⟩⟩, hk.1.1.2.1⟩)) hg (.inl rfl)); have n1_ := Aside0.mk (hp_); have n2_ := Aside0.mk (Kd.N_afterv (v := (.slice (some ⟨go18, 0, none⟩) x5_1.length co18)) (v1 := (.slice (some ⟨go18, 0, none⟩) x5_1.length co18)) (ok := (fun k_ => (P0_ k_ ∨ w.heap.size ≤ k_) ∧ some k_ ≠ (.slice Ao21 y133.length co21 : Value).ownBlock ∧ some k_ ≠ ((Value.slice A137 t136.length c137) : Value).ownBlock)) (by (with_reducible repeat (first | apply Kd.N_alloc | apply Kd.N_drewN | apply Kd.N_drew)); exact Kd.N_mono HO_18.out (fun _ hk => ⟨⟨hk.1.1.1, ⟨hk.1.2, hk.2⟩⟩, hk.1.1.2⟩)) hg (.inl rfl)); have n3_ := Aside0.mk (Kd.V_afterv (v := (.slice (some ⟨go18, 0, none⟩) x5_1.length co18)) (v1 := (.slice (some ⟨go18, 0, none⟩) x5_1.length co18)) (ok := (fun k_ => (P0_ k_ ∨ w.heap.size ≤ k_) ∧ some k_ ≠ (.slice (some ad131) t128.length co11 : Value).ownBlock ∧ some k_ ≠ (.slice Ao21 y133.length co21 : Value).ownBlock ∧ some k_ ≠ ((Value.slice A137 t136.length c137) : Value).ownBlock)) (by (with_reducible repeat (first | apply Kd.V_alloc | apply Kd.V_drewN | apply Kd.V_drew)); exact Kd.V_mono HL131_0.out (fun _ hk => ⟨⟨hk.1.1.1.1, ⟨hk.1.1.2, ⟨hk.1.2, hk.2⟩⟩⟩, hk.1.1.1.2⟩)) hg (.inl rfl)); have n4_ := Aside0.mk (Kd.V_afterv (v := (.slice (some ⟨go18, 0, none⟩) x5_1.length co18)) (v1 := (.slice (some ⟨go18, 0, none⟩) x5_1.length co18)) (ok := (fun k_ => (P0_ k_ ∨ w.heap.size ≤ k_) ∧ some k_ ≠ (.slice (some ad131) t128.length co11 : Value).ownBlock ∧ some k_ ≠ (.slice Ao21 y133.length co21 : Value).ownBlock ∧ some k_ ≠ ((Value.slice A137 t136.length c137) : Value).ownBlock)) (by (with_reducible repeat (first | apply Kd.V_alloc | apply Kd.V_drewN | apply Kd.V_drew)); exact Kd.V_mono HL132_0.out (fun _ hk => ⟨⟨hk.1.1.1, ⟨hk.1.1.2.2, ⟨hk.1.2, hk.2⟩⟩⟩, hk.1.1.2.1⟩)) hg (.inl rfl)); have n5_ := Aside0.mk (Kd.N_afterv (v := (.slice (some ⟨go18, 0, none⟩) x5_1.length co18)) (v1 := (.slice (some ⟨go18, 0, none⟩) x5_1.length co18)) (ok := (fun k_ => (P0_ k_ ∨ w.heap.size ≤ k_) ∧ some k_ ≠ (.slice (some ad131) t128.length co11 : Value).ownBlock ∧ some k_ ≠ ((Value.slice A137 t136.length c137) : Value).ownBlock)) (by (with_reducible repeat (first | apply Kd.N_alloc | apply Kd.N_drewN | apply Kd.N_drew)); exact Kd.N_mono HO135.out (fun _ hk => ⟨⟨hk.1.1, ⟨hk.1.2.2, hk.2⟩⟩, hk.1.2.1⟩)) hg (.inl rfl)); have n6_ := Aside0.mk ((by rw [hw]; exact below_set (HB.out) GB18.out : Below w.heap.size w w24)); clear HO_0; clear HO_5; clear HO_18; clear HL131_0; clear HL132_0; clear HO135; clear HB; clear HO138; have HO_0 := n0_; have HO_5 := n1_; have HO_18 := n2_; have HL131_0 := n3_; have HL132_0 := n4_; have HO135 := n5_; have HB := n6_; clear n0_ n1_ n2_ n3_ n4_ n5_ n6_; clear hg hw hp_))
                      go_roundg k1
                      case measure => have := HK1.out; omega
                      case rel => exact ⟨(y139), (wrap64 (x20_1 + 1)), (by first | rfl | (simp; done) | (simp [*]; done)), H', ⟨by have := HK1.out; omega⟩, ⟨by (with_reducible repeat (first | apply Kd.V_alloc | apply Kd.V_drewN | apply Kd.V_drew)); exact Kd.V_mono HO_0.out (fun _ hk => ⟨hk.1.1, ⟨hk.2, hk.1.2.1⟩⟩)⟩, ⟨by (with_reducible repeat (first | apply Kd.N_alloc | apply Kd.N_drewN | apply Kd.N_drew)); exact Kd.N_mono HO_5.out (fun _ hk => ⟨hk.1, hk.2.1⟩)⟩, ⟨by (with_reducible repeat (first | apply Kd.N_alloc | apply Kd.N_drewN | apply Kd.N_drew)); exact Kd.N_mono HO_18.out (fun _ hk => ⟨hk.1.1, hk.2⟩)⟩, ⟨by repeat (first | (with_reducible first | exact HB.out | apply below_alloc | apply pw_below_drewN | apply below_drew1) | exact HB.out)⟩⟩
                    · rw [if_neg c17] at H
                      exact absurd H (by simp)
                  · rw [if_neg c15] at H
                    exact absurd H (by simp)
                · rw [if_neg c14] at H
                  exact absurd H (by simp)
              · rw [if_neg c13] at H
                exact absurd H (by simp)
            · rw [if_neg c12] at H
              have c12b0 : decide (x20_1 < (t128.length : Int)) = false := decide_eq_false c12
              clear c12
              simp only [Option.some.injEq, Prod.mk.injEq] at H
              obtain ⟨rfl, rfl⟩ := H
              obtain ⟨W, hWe, hWl, hW64, hWr⟩ := HW.out rfl
              subst hWe
              obtain ⟨A5, c5, e5⟩ := Kd.N_slice HO_5.out
              subst e5
              have hrd := Kd.N_reads' HO_5.out
              have hUU : l0.length = (up2 W).length := by rw [up2_length, hWl]
              have HRD := Aside0.mk (show Kd.C (Kd.slice 5 (Kd.int .u8)) wr A5 l0.length (up2 W) by rw [hUU]; exact hrd.2.2)
              have HRC := Aside0.mk (show l0.length ≤ c5 by rw [hUU]; exact hrd.2.1)
              have HUU := Aside0.mk hUU
              have HWR := Aside0.mk hWr
              have HWL := Aside0.mk hWl
              have HW64 := Aside0.mk hW64
              have H0 := Aside0.mk (show W = [] → l0.length = 0 from fun h => by rw [← hWl, h]; rfl)
              have hs : w.heap.size ≤ wr.heap.size := HB.out.size
              have hul := up2_length W
              clear hrd hWr hUU HO_0 HO_5 HO_18
              by_cases hlt : (elimRun W l0.length).2.1.length < l0.length
              · have hd : decide (((elimRun W l0.length).2.1.length : Int) < (l0.length : Int)) = true := decide_eq_true (by omega)
                go_wp2_with (first | (go_at_call 62; (with_reducible refine (eliminate_calls' _ _ W l0.length (l0.length + l0.length) _ HUU.out HRD.out HRC.out HWR.out (by omega) (by have := HW64.out; omega) (by have := HWL.out; have := HW64.out; omega) H0.out).mono ?_); rintro e w3 ⟨gx, rfl, hE, hB3⟩; obtain ⟨vr, vp, hg, hS, hP⟩ := hE.out; obtain ⟨A4, c4, rfl⟩ := Kd.S_slice hS; obtain ⟨A6, c6, rfl⟩ := Kd.R_slice hP; rw [show (natInts (elimRun W l0.length).2.1).length = (elimRun W l0.length).2.1.length from List.length_map _] at hg hP; have hx0 : w3.cell? ⟨gx, 0, none⟩ = some (.slice A4 (up2 (elimRun W l0.length).1).length c4) := (by rw [blk_cell hg]; rfl); have hx1 : w3.cell? ⟨gx, 1, none⟩ = some (.slice A6 (elimRun W l0.length).2.1.length c6) := (by rw [blk_cell hg]; rfl); have HS := Aside0.mk hS; have HP := Aside0.mk hP; have HG := Aside0.mk hg; have HB3 := Aside0.mk hB3; clear hE hg hS hP hB3))
                go_ret2
                exact ⟨.slice none 0 0, by rw [show invCode (up2 W) 0 l0.length = 4 by unfold invCode invE; rw [if_pos rfl, toB2_up2, if_pos hlt]]; rfl, by rw [show invVal (up2 W) 0 l0.length = [] by unfold invVal invE; rw [if_pos rfl, toB2_up2, if_pos hlt]]; exact Kd.S_nil _ _ _ _ _, HB.out.trans (HB3.out.mono hs)⟩
              · have hd : decide (((elimRun W l0.length).2.1.length : Int) < (l0.length : Int)) = false := decide_eq_false (by omega)
                have HIC := Aside0.mk (show invCode (up2 W) 0 l0.length = 0 by unfold invCode invE; rw [if_pos rfl, toB2_up2, if_neg hlt])
                have HIV := Aside0.mk (show invVal (up2 W) 0 l0.length = up2 (invU (elimRun W l0.length).1 l0.length l0.length) by unfold invVal invE; rw [if_pos rfl, toB2_up2, if_neg hlt])
                go_wp2_with (first | (go_at_call 62; (with_reducible refine (eliminate_calls' _ _ W l0.length (l0.length + l0.length) _ HUU.out HRD.out HRC.out HWR.out (by omega) (by have := HW64.out; omega) (by have := HWL.out; have := HW64.out; omega) H0.out).mono ?_); rintro e w3 ⟨gx, rfl, hE, hB3⟩; obtain ⟨vr, vp, hg, hS, hP⟩ := hE.out; obtain ⟨A4, c4, rfl⟩ := Kd.S_slice hS; obtain ⟨A6, c6, rfl⟩ := Kd.R_slice hP; rw [show (natInts (elimRun W l0.length).2.1).length = (elimRun W l0.length).2.1.length from List.length_map _] at hg hP; have hx0 : w3.cell? ⟨gx, 0, none⟩ = some (.slice A4 (up2 (elimRun W l0.length).1).length c4) := (by rw [blk_cell hg]; rfl); have hx1 : w3.cell? ⟨gx, 1, none⟩ = some (.slice A6 (elimRun W l0.length).2.1.length c6) := (by rw [blk_cell hg]; rfl); have HS := Aside0.mk hS; have HP := Aside0.mk hP; have HG := Aside0.mk hg; have HB3 := Aside0.mk hB3; clear hE hg hS hP hB3))
                have HER := Aside0.mk (elimRun_rows HWR.out l0.length)
                have HEL := Aside0.mk (show (elimRun W l0.length).1.length = l0.length by rw [elimRun_length, HWL.out])
                have HBX := Aside0.mk (HB.out.trans (HB3.out.mono hs))
                have HSX := Aside0.mk (Kd.S_lower HS.out hs)
                have HBG := Aside0.mk HG.out
                clear hd hx0 hx1 HB3 HS HG HRD HRC H0 HP hs
                generalize elimRun W l0.length = E at HIV HER HEL HSX HBG ⊢
                clear hlt
                generalize hdet : b2i E.2.2 = det at HBG ⊢
                generalize hpl : E.2.1.length = np at HBG ⊢
                rw [show (up2 E.1).length = l0.length by rw [up2_length]; exact HEL.out] at HSX HBG ⊢
                have hSS := HSX.out
                rw [show up2 E.1 = up2 (invU E.1 l0.length 0) by rw [invU_zero]] at hSS
                have HSS := Aside0.mk hSS
                clear hSS HSX hdet hpl
                go_loopw [9, 51] (fun _ v51 wz => ∃ i : Nat, i ≤ l0.length ∧ v51 = .int .i64 (i : Int) ∧ Aside0 (wz.heap[gx]? = some (.cells #[.slice A4 l0.length c4, .slice A6 np c6, .int .u8 det] 80 (0, 0)) ∧ Kd.S D 34 wz w.heap.size (fun _ => True) (.slice A4 l0.length c4) (up2 (invU E.1 l0.length i)) ∧ Below w.heap.size w wz)) (fun _ v51 _ => l0.length - (intOf v51).toNat)
                case atStart => exact ⟨0, by omega, rfl, ⟨HBG.out, HSS.out, HBX.out⟩⟩
                case round =>
                  clear HBG HSS HBX
                  obtain ⟨i, hi, rfl, HA⟩ := hrel
                  have hn32 : l0.length ≤ 32 := HW64.out
                  by_cases hi2 : i < l0.length
                  · have hiE : i < E.1.length := by rw [HEL.out]; exact hi2
                    obtain ⟨gr, cr, er, hgrb, hgrl, cls, hcls⟩ := Kd.S_form HA.out.2.1 (by rw [up2_length, invU_length]; omega)
                    injection er with er ern erc
                    subst er
                    obtain ⟨Ai, ci, hxi, hli, hCi, hfi⟩ := S_slot HA.out.2.1 i hi2
                    have hrow : (up2 (invU E.1 l0.length i)).getD i [] = up (E.1.getD i []) := by rw [getD_up2, invU_get _ _ _ hiE, if_neg (Nat.lt_irrefl i)]
                    rw [hrow] at hxi hli hCi
                    have hrr := HER.out _ (getD_mem' hiE)
                    have HST := Aside0.mk (invU_step E.1 l0.length i hiE)
                    generalize hrg : E.1.getD i [] = rr at hxi hli hCi hrr
                    have HRG := Aside0.mk hrg
                    have hul2 : (up rr).length = l0.length + l0.length := by rw [up_length, hrr]
                    have hC7 := Kd.C_drop (m := l0.length) (c := ci) hCi (by omega) hli
                    obtain ⟨i0_, hi0_, hzz_⟩ := Option.map_eq_some_iff.1 info5
                    simp only [Prod.mk.injEq] at hzz_
                    have hcut := cut_from (P := Try.prog) 34 5 .i64 Try.underlying34 hi0_ 1 hzz_.2.1 Ai (l0.length + l0.length) ci (l0.length : Int) (by omega) (by omega)
                    rw [Int.toNat_natCast, show l0.length + l0.length - l0.length = l0.length by omega] at hcut
                    rw [show (Kd.int .u8).sz = 1 from rfl, up_drop] at hC7
                    have hl7 : l0.length ≤ ci - l0.length := by omega
                    rw [hul2] at hxi
                    generalize (if ci = l0.length then Ai else Ai.map (·.add (l0.length * 1))) = A7 at hcut hC7
                    generalize ci - l0.length = c7 at hcut hl7
                    have hlen7 : (up (rr.drop l0.length)).length = l0.length := by rw [up_length, List.length_drop, hrr]; omega
                    have HC7 := Aside0.mk hC7
                    have HL7 := Aside0.mk (show (up (rr.drop l0.length)).length ≤ c7 by omega)
                    have HLEN := Aside0.mk hlen7
                    have HCL := Aside0.mk (show slices_Clone_byte_byte.f (up (rr.drop l0.length)) = some (up (rr.drop l0.length)) by unfold slices_Clone_byte_byte.f; rw [if_pos (by omega)])
                    have hx0 : wr.cell? ⟨gx, 0, none⟩ = some (.slice (some ⟨gr, 0, none⟩) l0.length c4) := by rw [blk_cell HA.out.1]; rfl
                    have i0 : (0 : Int) ≤ (i : Int) := by omega
                    have i1 : (i : Int) < (l0.length : Int) := by omega
                    have HGRL := Aside0.mk hgrl
                    have HGRB := Aside0.mk hgrb
                    have HCLS := Aside0.mk hcls
                    clear hC7 hl7 hlen7 hCi hli hrow hrr hrg hul2 hzz_ hi0_ hgrl hgrb hcls ern erc hiE
                    go_wp2
                    refine start_ (n := 17) (S := fun w' => w'.cell? ⟨gx, 0, none⟩ = some (.slice (some ⟨gr, 0, none⟩) l0.length c4) ∧ w'.cell? ⟨gr, i, none⟩ = some (.slice Ai (l0.length + l0.length) ci)) (ds := [16]) #[false, false, false, false, false, false, false, false, false, false, false, false, false, false, false, false, false] (by kernel_rfl) rfl rfl ⟨hx0, hxi⟩ (fun hHeld => ?_)
                    refine with_tabW f42.tab16 f42.bits16 (fun HT_ HW_ => ?_)
                    replace hfi : wr.drew.frozen? ⟨gr, i, none⟩ = false := hfi
                    replace HC7 := Aside0.mk (Kd.C_drew HC7.out)
                    have HG1 := Aside0.mk (show wr.drew.heap[gx]? = _ from HA.out.1)
                    have HS1 := Aside0.mk (Kd.S_drew HA.out.2.1)
                    have HB1 := Aside0.mk (below_drew HA.out.2.2)
                    replace HGRL := Aside0.mk (show gr < wr.drew.heap.size from HGRL.out)
                    replace HCLS := Aside0.mk (show wr.drew.heap[gr]? = _ from HCLS.out)
                    clear hx0 hxi
                    generalize wr.drew = W1 at hfi HC7 HG1 HS1 HB1 HGRL HCLS hHeld ⊢
                    refine pure_ (i := 0) (N := some 54) (v := ?_) (a' := ?_) #[true, false, false, false, false, false, false, false, false, false, false, false, false, false, false, false, false] rfl rfl (any_of HT_.out (by kernel_rfl)) (fun _ _ _ h => h) (Or.inl ⟨by rfl, ?_⟩) ?_ ?_
                    rotate_left
                    · intro w'
                      go_simp
                      with_reducible rfl
                    rotate_left
                    · simp only [Act.put, List.setIfInBounds_toArray, List.set_cons_zero, List.set_cons_succ, i64_w, i32_w]
                      rfl
                    refine pure_ (i := 1) (N := some 55) (v := ?_) (a' := ?_) #[true, true, false, false, false, false, false, false, false, false, false, false, false, false, false, false, false] rfl rfl (any_of HT_.out (by kernel_rfl)) (fun _ _ _ h => h) (Or.inl ⟨by rfl, ?_⟩) ?_ ?_
                    rotate_left
                    · intro w'
                      go_simp
                      with_reducible rfl
                    rotate_left
                    · simp only [Act.put, List.setIfInBounds_toArray, List.set_cons_zero, List.set_cons_succ, i64_w, i32_w]
                      rfl
                    refine pure_ (i := 2) (N := some 56) (v := ?_) (a' := ?_) #[true, true, true, false, false, false, false, false, false, false, false, false, false, false, false, false, false] rfl rfl (any_of HT_.out (by kernel_rfl)) (fun _ _ _ h => h) (Or.inl ⟨by rfl, ?_⟩) ?_ ?_
                    rotate_left
                    · intro w'
                      go_simp
                      with_reducible rfl
                    rotate_left
                    · simp only [Act.put, List.setIfInBounds_toArray, List.set_cons_zero, List.set_cons_succ, i64_w, i32_w]
                      rfl
                    refine pure_ (i := 4) (N := some 58) (v := ?_) (a' := ?_) #[true, true, true, false, true, false, false, false, false, false, false, false, false, false, false, false, false] rfl rfl (any_of HT_.out (by kernel_rfl)) (fun _ _ _ h => h) (Or.inl ⟨by rfl, ?_⟩) ?_ ?_
                    rotate_left
                    · intro w'
                      go_simp
                      with_reducible rfl
                    rotate_left
                    · simp only [Act.put, List.setIfInBounds_toArray, List.set_cons_zero, List.set_cons_succ, i64_w, i32_w]
                      rfl
                    refine pure_ (i := 5) (N := some 59) (v := ?_) (a' := ?_) #[true, true, true, false, true, true, false, false, false, false, false, false, false, false, false, false, false] rfl rfl (any_of HT_.out (by kernel_rfl)) (fun _ _ _ h => h) (Or.inl ⟨by rfl, ?_⟩) ?_ ?_
                    rotate_left
                    · intro w'
                      go_simp
                      with_reducible rfl
                    rotate_left
                    · simp only [Act.put, List.setIfInBounds_toArray, List.set_cons_zero, List.set_cons_succ, i64_w, i32_w]
                      rfl
                    refine pure_ (i := 6) (N := some 60) (v := ?_) (a' := ?_) #[true, true, true, false, true, true, true, false, false, false, false, false, false, false, false, false, false] rfl rfl (any_of HT_.out (by kernel_rfl)) (fun _ _ _ h => h) (Or.inl ⟨by rfl, ?_⟩) ?_ ?_
                    rotate_left
                    · intro w'
                      go_simp
                      with_reducible rfl
                    rotate_left
                    · simp only [Act.put, List.setIfInBounds_toArray, List.set_cons_zero, List.set_cons_succ, i64_w, i32_w]
                      rfl
                    refine pure_ (i := 7) (N := some 61) (v := ?_) (a' := ?_) #[true, true, true, false, true, true, true, true, false, false, false, false, false, false, false, false, false] rfl rfl (any_of HT_.out (by kernel_rfl)) (fun _ _ _ h => h) (Or.inl ⟨by rfl, ?_⟩) ?_ ?_
                    rotate_left
                    · intro w'
                      go_simp
                      with_reducible rfl
                    rotate_left
                    · simp only [Act.put, List.setIfInBounds_toArray, List.set_cons_zero, List.set_cons_succ, i64_w, i32_w]
                      rfl
                    refine pure_ (i := 9) (N := some 63) (v := ?_) (a' := ?_) #[true, true, true, false, true, true, true, true, false, true, false, false, false, false, false, false, false] rfl rfl (any_of HT_.out (by kernel_rfl)) (fun _ _ _ h => h) (Or.inl ⟨by rfl, ?_⟩) ?_ ?_
                    rotate_left
                    · intro w'
                      go_simp
                      with_reducible rfl
                    rotate_left
                    · simp only [Act.put, List.setIfInBounds_toArray, List.set_cons_zero, List.set_cons_succ, i64_w, i32_w]
                      rfl
                    refine pure_ (i := 12) (N := some 66) (v := ?_) (a' := ?_) #[true, true, true, false, true, true, true, true, false, true, false, false, true, false, false, false, false] rfl rfl (any_of HT_.out (by kernel_rfl)) (fun _ _ _ h => h) (Or.inl ⟨by rfl, ?_⟩) ?_ ?_
                    rotate_left
                    · intro w'
                      go_simp
                      with_reducible rfl
                    rotate_left
                    · simp only [Act.put, List.setIfInBounds_toArray, List.set_cons_zero, List.set_cons_succ, i64_w, i32_w]
                      rfl
                    refine take_ (i := 3) (N := some 57) (v := ?_) (a' := ?_) #[true, true, true, true, true, true, true, true, false, true, false, false, true, false, false, false, false] rfl rfl (take_ofW HT_.out HW_.out (by kernel_rfl)) (fun _ _ _ h => h) (Or.inl ⟨by rfl, ?_⟩) hHeld ?_ ?_
                    rotate_left
                    · rintro w' ⟨s0, s1⟩
                      go_simp
                      with_reducible rfl
                    rotate_left
                    · simp only [Act.put, List.setIfInBounds_toArray, List.set_cons_zero, List.set_cons_succ, i64_w, i32_w]
                      rfl
                    refine take_ (i := 8) (N := some 62) (v := ?_) (a' := ?_) #[true, true, true, true, true, true, true, true, true, true, false, false, true, false, false, false, false] rfl rfl (take_ofW HT_.out HW_.out (by kernel_rfl)) (fun _ _ _ h => h) (Or.inl ⟨by rfl, ?_⟩) hHeld ?_ ?_
                    rotate_left
                    · rintro w' ⟨s0, s1⟩
                      go_simp
                      with_reducible rfl
                    rotate_left
                    · simp only [Act.put, List.setIfInBounds_toArray, List.set_cons_zero, List.set_cons_succ, i64_w, i32_w]
                      rfl
                    refine pure_ (i := 10) (N := some 64) (v := ?_) (a' := ?_) #[true, true, true, true, true, true, true, true, true, true, true, false, true, false, false, false, false] rfl rfl (any_of HT_.out (by kernel_rfl)) (fun _ _ _ h => h) (Or.inl ⟨by rfl, ?_⟩) ?_ ?_
                    rotate_left
                    · intro w'
                      go_simp
                      with_reducible rfl
                    rotate_left
                    · simp only [Act.put, List.setIfInBounds_toArray, List.set_cons_zero, List.set_cons_succ, i64_w, i32_w]
                      rfl
                    refine take_ (i := 11) (N := some 65) (v := ?_) (a' := ?_) #[true, true, true, true, true, true, true, true, true, true, true, true, true, false, false, false, false] rfl rfl (take_ofW HT_.out HW_.out (by kernel_rfl)) (fun _ _ _ h => h) (Or.inl ⟨by rfl, ?_⟩) hHeld ?_ ?_
                    rotate_left
                    · rintro w' ⟨s0, s1⟩
                      go_simp
                      with_reducible rfl
                    rotate_left
                    · simp only [Act.put, List.setIfInBounds_toArray, List.set_cons_zero, List.set_cons_succ, i64_w, i32_w]
                      rfl
                    refine one_ (i := 13) (N := some 67) #[true, true, true, true, true, true, true, true, true, true, true, true, true, true, false, false, false] rfl rfl (one_of HT_.out (by kernel_rfl)) (by decide) (fun K hK => ?_)
                    refine event_step (v := .slice A7 l0.length c7) (w1 := W1) (by rfl) (by first | (go_simp; done) | (go_simp; rfl) | (simp [execOp, hcut, Act.eval, Act.put]; done)) ?_
                    refine hK.out _ _ hHeld (fun hHeld => ?_)
                    clear hK K
                    refine norm_ (a' := ?_) ?_ ?_
                    rotate_left
                    · show Act.put _ (some 67) _ = _
                      simp only [Act.put, List.setIfInBounds_toArray, List.set_cons_zero, List.set_cons_succ, i64_w, i32_w]
                      rfl
                    refine one_ (i := 14) (N := some 68) #[true, true, true, true, true, true, true, true, true, true, true, true, true, true, true, false, false] rfl rfl (one_of HT_.out (by kernel_rfl)) (by decide) (fun K hK => ?_)
                    refine goes_ Try.func63 (by kernel_rfl) rfl #[.slice A7 l0.length c7] (by rfl) rfl rfl (by (try simp only [List.map_toArray, List.map_cons, List.map_nil]); first | done | rfl | (simp only [List.length_drop, List.length_take]; rfl)) ?_
                    have hcl_ := slices_Clone_byte_byte.calls A7 c7 (up (rr.drop l0.length)) (up (rr.drop l0.length)) W1 HC7.out HL7.out HCL.out
                    rw [HLEN.out] at hcl_
                    refine hcl_.mono ?_
                    rintro e w6 ⟨v6, rfl, hR6, hB6⟩
                    refine ⟨_, rfl, ?_⟩
                    obtain ⟨A8, c8, rfl⟩ := Kd.R_slice hR6
                    have HR6 := Aside0.mk hR6
                    have HB6 := Aside0.mk hB6
                    have hfg6 := (hB6.frozen HGRL.out).trans hfi
                    clear hcl_ hR6 hB6
                    refine hK.out _ _ ⟨(HB6.out.cell (World.block_lt_of_cell? W1 _ hHeld.1)).trans hHeld.1, (HB6.out.cell (World.block_lt_of_cell? W1 _ hHeld.2)).trans hHeld.2⟩ (fun hHeld => ?_)
                    clear hK K
                    refine norm_ (a' := ?_) ?_ ?_
                    rotate_left
                    · show Act.put _ (some 68) _ = _
                      simp only [Act.put, List.setIfInBounds_toArray, List.set_cons_zero, List.set_cons_succ, i64_w, i32_w]
                      rfl
                    refine pure_ (i := 15) (N := some 69) (v := ?_) (a' := ?_) #[true, true, true, true, true, true, true, true, true, true, true, true, true, true, true, true, false] rfl rfl (any_of HT_.out (by kernel_rfl)) (fun _ _ _ h => h) (Or.inl ⟨by rfl, ?_⟩) ?_ ?_
                    rotate_left
                    · intro w'
                      go_simp
                      with_reducible rfl
                    rotate_left
                    · simp only [Act.put, List.setIfInBounds_toArray, List.set_cons_zero, List.set_cons_succ, i64_w, i32_w]
                      rfl
                    refine last_ (i := 16) (N := none) #[true, true, true, true, true, true, true, true, true, true, true, true, true, true, true, true, true] rfl rfl (one_of HT_.out (by kernel_rfl)) (by decide) (fun K hK => ?_)
                    refine skip_ (w1 := ?_) (by rfl) rfl ?_ ?_
                    rotate_left
                    · go_simp
                      rfl
                    refine hK.out _ _ ?_
                    clear hK K
                    refine done_ (done_of HT_.out (by kernel_rfl)) ?_
                    have hne : gx ≠ gr := by
                      intro e
                      have h1 := HG1.out
                      rw [e, HCLS.out] at h1
                      simp at h1
                    have hsf := S_put_fresh HS1.out HB6.out HR6.out HB1.out.size HGRL.out (i : Int) (by omega) (by omega)
                    have hst := HST.out
                    rw [HRG.out] at hst
                    rw [Int.toNat_natCast, set_up2, hst] at hsf
                    have HSG := Aside0.mk hsf
                    have HBF := Aside0.mk ((HB1.out.trans (HB6.out.mono HB1.out.size)).setCell (p := ⟨gr, i, none⟩) HGRB.out (.slice A8 (up (rr.drop l0.length)).length c8))
                    have HGF := Aside0.mk (blk_far (p := ⟨gr, i, none⟩) ((HB6.out.block gx (blk_lt HG1.out)).trans HG1.out) hne (.slice A8 (up (rr.drop l0.length)).length c8))
                    clear hsf hst hHeld hfg6 hfi hcut
                    go_wp2
                    go_roundw
                    case rel => exact ⟨i + 1, by omega, by go_num, ⟨HGF.out, HSG.out, HBF.out⟩⟩
                    case measure => simp [intOf]; omega
                  · obtain rfl : i = l0.length := by omega
                    have hx0 : wr.cell? ⟨gx, 0, none⟩ = some (.slice A4 l0.length c4) := by rw [blk_cell HA.out.1]; rfl
                    go_wp2
                    go_ret2
                    exact ⟨.slice A4 l0.length c4, by rw [HIC.out]; rfl, by rw [HIV.out]; exact HA.out.2.1, HA.out.2.2⟩
      · rw [if_neg c5] at H
        exact absurd H (by simp)
    · rw [if_neg c4] at H
      exact absurd H (by simp)
  · replace c3 := Bool.eq_false_iff.mpr c3
    subst c3
    have H1 : (some (([] : List (List Int)), 1)) = some (r1, r2) := by rw [if_neg (show ¬ (false = true) by decide)] at H; exact H
    clear H
    have H := H1
    clear H1
    simp only [Option.some.injEq, Prod.mk.injEq] at H
    obtain ⟨rfl, rfl⟩ := H
    go_enter Try.func42, Try.ntmps42
    go_wp2_with (first | ((with_reducible refine gate_callee (f := 67) rfl ?_); refine goesL_ (some 11) rfl rfl Try.func67 (by kernel_rfl) rfl #[.slice A0 l0.length c0] rfl (by (try simp only [List.map_toArray, List.map_cons, List.map_nil]); first | done | rfl | (simp only [List.length_drop, List.length_take]; rfl)) ?_; (with_reducible refine (matrix_square.calls _ _ l0 false _ ?side1 ?side2 A2.out).mono ?_); (case side1 => repeat (first | exact (Kd.V_reads' HO0.out).2.2 | (with_reducible refine Kd.C_alloc ?_ _) | (with_reducible refine Kd.C_drewN ?_ _) | (with_reducible refine Kd.C_drew ?_))); (case side2 => exact (Kd.V_reads' HO0.out).2.1); rintro e w25 ⟨rfl, hb⟩; refine ⟨_, rfl, ?_⟩; have n0_ := Aside0.mk (Kd.V_below (by (with_reducible repeat (first | apply Kd.V_alloc | apply Kd.V_drewN | apply Kd.V_drew)); exact HO0.out) hb); have n1_ := Aside0.mk (below_step (by repeat (first | (with_reducible first | exact HB.out | apply below_alloc | apply pw_below_drewN | apply below_drew1) | exact HB.out)) hb); clear HO0; clear HB; have HO0 := n0_; have HB := n1_; clear n0_ n1_; (try clear hb); (try clear hb2); (try clear hk); (try clear hi)))
    go_ret2
    exact ⟨_, by first | rfl | (simp [invCode]; done), by first | exact Kd.S_nil _ _ _ _ _ | (simp only [invVal]; exact Kd.S_nil _ _ _ _ _), by repeat (first | (with_reducible first | exact HB.out | apply below_alloc | apply pw_below_drewN | apply below_drew1) | exact HB.out)⟩
end Go.Proofs.Ytpkghpljgjlmjaa.K
/- An argument that is a list of bytes or of ints, opened. -/
namespace Go.Proofs.Ytpkghpljgjlmjaa.K
open Go.RowKit Go.WideShapes Go.ChangeShapes Go.ChangeAt Go.Proofs.YtpkghpljgjlmjaaW.PrintWords Go.Proofs.YtpkghpljgjlmjaaW.PrintLast Go.Proofs.YtpkghpljgjlmjaaW.PrintMore
set_option linter.unusedSimpArgs false
set_option linter.unusedVariables false
theorem V_of_C {w : World} {A : Option Addr} {c : Nat} {xs : List (List Int)} (h : Kd.C (Kd.slice 5 (Kd.int .u8)) w A xs.length xs) (hl : xs.length ≤ c) (base : Nat) : Kd.V (Kd.slice 5 (Kd.int .u8)) 34 w base (fun _ => True) (.slice A xs.length c) xs :=
  Kd.V_mk hl (fun W' hW => Kd.Heap.C (Kd.heap_slice 5 (Kd.heap_int .u8)) (fun k hk => hW k trivial hk) h)
end Go.Proofs.Ytpkghpljgjlmjaa.K
/- The walk of fill of package matrix. -/
namespace Go.Proofs.Ytpkghpljgjlmjaa.K
open Go.RowKit Go.Proofs.YtpkghpljgjlmjaaW.PrintWords Go.Proofs.YtpkghpljgjlmjaaW.PrintLast Go.Proofs.YtpkghpljgjlmjaaW.PrintMore Kin
set_option linter.unusedVariables false
set_option linter.unusedSimpArgs false
def cauchyEl (cols r c : Nat) : B := ginv (UInt8.ofNat (cols + r) ^^^ UInt8.ofNat c)
def cauchyM (rows cols : Nat) : List (List B) := (List.range rows).map fun r => (List.range cols).map fun c => cauchyEl cols r c
end Go.Proofs.Ytpkghpljgjlmjaa.K
/- Identity, Cauchy and Vandermonde of the program and of the reference, plain. -/
namespace Go.Proofs.Ytpkghpljgjlmjaa.K
open Go.RowKit Go.Proofs.YtpkghpljgjlmjaaW.PrintWords Go.Proofs.YtpkghpljgjlmjaaW.PrintLast Go.Proofs.YtpkghpljgjlmjaaW.PrintMore Kin
set_option linter.unusedSimpArgs false
set_option linter.unusedVariables false
def idR (n i a : Nat) : List B := (List.range n).map fun b => if a = b ∧ a < i then 1 else 0
def idUpto (n i : Nat) : List (List B) := (List.range n).map fun a => idR n i a
def idM (n : Nat) : List (List B) := (List.range n).map fun a => (List.range n).map fun b => if a = b then 1 else 0
theorem idUpto_length (n i : Nat) : (idUpto n i).length = n := by simp [idUpto]
theorem idR_length (n i a : Nat) : (idR n i a).length = n := by simp [idR]
theorem idUpto_get (n i a : Nat) (ha : a < n) : (idUpto n i).getD a [] = idR n i a := by
  simp [idUpto, List.getD_eq_getElem?_getD, List.getElem?_map, List.getElem?_range ha]
theorem idUpto_zero (n : Nat) : idUpto n 0 = List.replicate n (List.replicate n 0) := by
  apply List.ext_getElem
  · simp [idUpto]
  · intro a h1 h2
    simp only [idUpto, idR, List.getElem_map, List.getElem_range, List.getElem_replicate]
    apply List.ext_getElem
    · simp
    · intro b h3 h4
      simp
theorem idUpto_all (n : Nat) : idUpto n n = idM n := by
  unfold idUpto idM idR
  apply List.map_congr_left
  intro a ha
  rw [List.mem_range] at ha
  apply List.map_congr_left
  intro b _
  by_cases h : a = b
  · rw [if_pos ⟨h, ha⟩, if_pos h]
  · rw [if_neg (fun e => h e.1), if_neg h]
theorem idUpto_step (n i : Nat) (hi : i < n) : (idUpto n i).set i (((idUpto n i).getD i []).set i 1) = idUpto n (i + 1) := by
  rw [idUpto_get _ _ _ hi]
  apply List.ext_getElem
  · simp [idUpto]
  · intro a h1 h2
    rw [List.getElem_set]
    simp only [idUpto, List.getElem_map, List.getElem_range]
    by_cases ha : i = a
    · subst ha
      rw [if_pos rfl]
      apply List.ext_getElem
      · simp [idR]
      · intro b h3 h4
        rw [List.getElem_set]
        simp only [idR, List.getElem_map, List.getElem_range]
        by_cases hb : i = b
        · subst hb
          rw [if_pos rfl, if_pos ⟨rfl, by omega⟩]
        · rw [if_neg hb, if_neg (fun e => hb e.1), if_neg (fun e => hb e.1)]
    · rw [if_neg ha]
      unfold idR
      apply List.map_congr_left
      intro b _
      congr 1
      rw [eq_iff_iff]
      omega
theorem wrap_nx (i : Nat) (h : i < 9223372036854775807) : wrap64 ((i : Int) + 1) = ((i + 1 : Nat) : Int) := by rw [wrap_small _ (by omega) (by omega)]; rfl
theorem identity_l0 (n : Nat) (hn : n ≤ 1000000) (m : Nat) : ∀ (k i : Nat), i + m = n → m < k → matrix_Identity.l0 k (up2 (idUpto n i)) (n : Int) (i : Int) = some (up2 (idM n)) := by
  induction m with
  | zero =>
    intro k i hi hk
    obtain ⟨k, rfl⟩ : ∃ j, k = j + 1 := ⟨k - 1, by omega⟩
    obtain rfl : i = n := by omega
    simp only [matrix_Identity.l0]
    rw [if_neg (by omega), idUpto_all]
  | succ m ih =>
    intro k i hi hk
    obtain ⟨k, rfl⟩ : ∃ j, k = j + 1 := ⟨k - 1, by omega⟩
    simp only [matrix_Identity.l0]
    rw [if_pos (by omega), if_pos (by omega), if_pos (by rw [up2_length, idUpto_length]; omega), rd_L1_up2, if_pos (by rw [up_length, idUpto_get _ _ _ (by omega), idR_length]; omega), wrap_nx _ (by omega), Int.toNat_natCast, ← b2i_one, set_up, set_up2, idUpto_step n i (by omega)]
    exact ih k (i + 1) (by omega) (by omega)
theorem identity_b (n : Nat) (hn : n ≤ 64) {k : Nat} (hk : n < k) : matrix_Identity.f k (n : Int) = some (up2 (idM n)) := by
  unfold matrix_Identity.f
  rw [size_eq, decide_eq_true hn]
  simp only [Option.bind_some, if_pos]
  rw [zero_eq n n (by omega) (by omega) hk, zeros_up2, ← idUpto_zero]
  simp only [Option.bind_some]
  rw [up2_length, idUpto_length]
  exact identity_l0 n (by omega) n k 0 (by omega) hk
end Go.Proofs.Ytpkghpljgjlmjaa.K
/- Row operations over the field of 256 elements, matrices as functions. No program in sight. -/
namespace Kin
set_option linter.unusedSimpArgs false
set_option linter.unusedVariables false

/-- The product of two matrices, n elements in the middle. -/
def mulF (n : Nat) (A C : Mx) : Mx := fun i j => bsum n (fun t => gmul (A i t) (C t j))
/-- Rows k and q exchanged, row k times s, then for every other row i: plus g i times row k. -/
def rowop (k q : Nat) (s : B) (g : Nat → B) (A : Mx) : Mx := fun i j =>
  if i = k then gmul (swp A k q k j) s else swp A k q i j ^^^ gmul (gmul (swp A k q k j) s) (g i)
theorem rowop_eq (k q : Nat) (s : B) (g : Nat → B) (A : Mx) (j : Nat) : rowop k q s g A k j = gmul (swp A k q k j) s := if_pos rfl
theorem rowop_ne {k q : Nat} (s : B) (g : Nat → B) (A : Mx) {i : Nat} (h : i ≠ k) (j : Nat) : rowop k q s g A i j = swp A k q i j ^^^ gmul (gmul (swp A k q k j) s) (g i) := if_neg h
def idF : Mx := fun i j => if i = j then 1 else 0
theorem idF_eq (i : Nat) : idF i i = 1 := if_pos rfl
theorem idF_ne {i j : Nat} (h : i ≠ j) : idF i j = 0 := if_neg h
theorem swp_le {a b i len : Nat} (ha : a < len) (hb : b < len) (hi : i < len) : (if i = b then a else if i = a then b else i) < len := by
  split
  · exact ha
  · split
    · exact hb
    · exact hi
theorem swp_mul (n : Nat) (A C : Mx) (a b : Nat) : swp (mulF n A C) a b = mulF n (swp A a b) C := by
  funext i j
  rw [swp_row]
  unfold mulF
  rw [swp_row]
theorem rowop_mul (n k q : Nat) (s : B) (g : Nat → B) (A C : Mx) : rowop k q s g (mulF n A C) = mulF n (rowop k q s g A) C := by
  funext i j
  by_cases h : i = k
  · subst h
    rw [rowop_eq, swp_mul]
    unfold mulF
    rw [← bsum_mul_right]
    refine bsum_congr fun t _ => ?_
    rw [rowop_eq, gmul_assoc, gmul_assoc, gmul_comm s]
  · rw [rowop_ne _ _ _ h, swp_mul]
    unfold mulF
    rw [← bsum_mul_right, ← bsum_mul_right, ← bsum_add]
    refine bsum_congr fun t _ => ?_
    rw [rowop_ne _ _ _ h, gmul_add_left]
    congr 1
    simp only [gmul_assoc, gmul_comm, gmul_left_comm]
theorem rowop_add (k q : Nat) (s : B) (g : Nat → B) (A C : Mx) : rowop k q s g (fun i j => A i j ^^^ C i j) = fun i j => rowop k q s g A i j ^^^ rowop k q s g C i j := by
  funext i j
  unfold rowop
  by_cases h : i = k
  · rw [if_pos h, if_pos h, if_pos h]
    simp only [swp_row]
    rw [gmul_add_left]
  · rw [if_neg h, if_neg h, if_neg h]
    simp only [swp_row]
    rw [gmul_add_left, gmul_add_left, bx_swap4]
theorem rowop_col {len k q : Nat} (hk : k < len) (hq : q < len) (s : B) (g : Nat → B) {A C : Mx} {j j' : Nat} (h : ∀ i, i < len → A i j = C i j') : ∀ i, i < len → rowop k q s g A i j = rowop k q s g C i j' := by
  have hs : ∀ i, i < len → swp A k q i j = swp C k q i j' := by
    intro i hi
    rw [swp_row, swp_row]
    exact h _ (swp_le hk hq hi)
  intro i hi
  by_cases e : i = k
  · subst e
    rw [rowop_eq, rowop_eq, hs i hi]
  · rw [rowop_ne _ _ _ e, rowop_ne _ _ _ e, hs i hi, hs k hk]
theorem rowop_zero {len k q : Nat} (hk : k < len) (hq : q < len) {s : B} (hs : s ≠ 0) (g : Nat → B) (A : Mx) (j : Nat) (h : ∀ i, i < len → rowop k q s g A i j = 0) : ∀ i, i < len → A i j = 0 := by
  have h0 : swp A k q k j = 0 := by
    have := h k hk
    unfold rowop at this
    rw [if_pos rfl] at this
    rcases gmul_eq_zero.1 this with e | e
    · exact e
    · exact absurd e hs
  have h1 : ∀ i, i < len → swp A k q i j = 0 := by
    intro i hi
    by_cases e : i = k
    · rw [e]; exact h0
    · have := h i hi
      unfold rowop at this
      rw [if_neg e, h0, zero_gmul, zero_gmul, bx_zero] at this
      exact this
  intro i hi
  have := h1 (if i = q then k else if i = k then q else i) (swp_le hk hq hi)
  rw [swp_row] at this
  have e : (if (if i = q then k else if i = k then q else i) = q then k else if (if i = q then k else if i = k then q else i) = k then q else (if i = q then k else if i = k then q else i)) = i := by
    by_cases a : i = q
    · subst a
      rw [if_pos rfl]
      by_cases b : k = i
      · rw [if_pos b, b]
      · rw [if_neg b, if_pos rfl]
    · rw [if_neg a]
      by_cases b : i = k
      · subst b
        rw [if_pos rfl, if_pos rfl]
      · rw [if_neg b, if_neg a, if_neg b]
  rwa [e] at this
/-- The other rows cleared up to row m. -/
def clr (k : Nat) (g : Nat → B) (m : Nat) (A : Mx) : Mx := fun i j => if i ≠ k ∧ i < m then A i j ^^^ gmul (A k j) (g i) else A i j
theorem det_clr {n k : Nat} (hk : k < n) (g : Nat → B) (A : Mx) (m : Nat) (hm : m ≤ n) : det n (clr k g m A) = det n A := by
  induction m with
  | zero =>
    congr 1
    funext i j
    unfold clr
    rw [if_neg (by omega)]
  | succ m ih =>
    rw [← ih (by omega)]
    by_cases e : m = k
    · congr 1
      funext i j
      unfold clr
      by_cases h : i ≠ k ∧ i < m
      · rw [if_pos h, if_pos ⟨h.1, by omega⟩]
      · rw [if_neg h, if_neg (by omega)]
    · rw [← det_addrow (clr k g m A) m k (g m) (by omega) hk e]
      congr 1
      funext i j
      by_cases h : i = m
      · subst h
        rw [upd_at]
        unfold clr
        rw [if_pos ⟨e, by omega⟩, if_neg (by omega), if_neg (by omega), gmul_comm]
      · rw [upd_ne _ _ h]
        unfold clr
        by_cases h2 : i ≠ k ∧ i < m
        · rw [if_pos h2, if_pos ⟨h2.1, by omega⟩]
        · rw [if_neg h2, if_neg (by omega)]
theorem det_rowop {n k q : Nat} (hk : k < n) (hq : q < n) (s : B) (g : Nat → B) (A : Mx) : det n (rowop k q s g A) = gmul s (det n A) := by
  rw [← det_swp A k q hk hq]
  have h2 := det_scale (swp A k q) k s (swp A k q k) hk
  rw [upd_self] at h2
  rw [← h2, ← det_clr hk g _ n (Nat.le_refl _)]
  refine det_congr fun i j hi hj => ?_
  unfold clr
  by_cases h : i = k
  · subst h
    rw [rowop_eq, if_neg (by omega), upd_at, gmul_comm]
  · rw [rowop_ne _ _ _ h, if_pos ⟨h, hi⟩, rowop_eq, upd_ne _ _ h, bx_cancel_right]
/-- F is a series of row operations on the first len rows; d is what they took out of the determinant. -/
structure Ops (len : Nat) (d : B) (F : Mx → Mx) : Prop where
  mul : ∀ n A C, F (mulF n A C) = mulF n (F A) C
  add : ∀ A C, F (fun i j => A i j ^^^ C i j) = fun i j => F A i j ^^^ F C i j
  col : ∀ {A C : Mx} {j j' : Nat}, (∀ i, i < len → A i j = C i j') → ∀ i, i < len → F A i j = F C i j'
  zero : ∀ A j, (∀ i, i < len → F A i j = 0) → ∀ i, i < len → A i j = 0
  det : ∀ A, gmul d (det len (F A)) = det len A
  ne : d ≠ 0
theorem Ops.none (len : Nat) : Ops len 1 (fun A => A) :=
  ⟨fun _ _ _ => rfl, fun _ _ => rfl, fun h => h, fun _ _ h => h, fun _ => one_gmul _, by decide⟩
theorem Ops.one {len k q : Nat} (hk : k < len) (hq : q < len) {p : B} (hp : p ≠ 0) (g : Nat → B) : Ops len p (rowop k q (ginv p) g) :=
  ⟨fun n A C => rowop_mul n k q _ g A C, fun A C => rowop_add k q _ g A C, fun h => rowop_col hk hq _ g h, fun A j h => rowop_zero hk hq (ginv_ne_zero hp) g A j h, fun A => by rw [det_rowop hk hq, ← gmul_assoc, gmul_ginv p hp, one_gmul], hp⟩
theorem Ops.comp {len : Nat} {d e : B} {F G : Mx → Mx} (h : Ops len d F) (h' : Ops len e G) : Ops len (gmul d e) (fun A => G (F A)) :=
  ⟨fun n A C => by rw [h.mul, h'.mul], fun A C => by rw [h.add, h'.add], fun x => h'.col (h.col x), fun A j x => h.zero A j (h'.zero (F A) j x), fun A => by rw [gmul_assoc, h'.det, h.det], gmul_ne_zero h.ne h'.ne⟩
theorem mulF_id_left {n : Nat} (A : Mx) {i : Nat} (hi : i < n) (j : Nat) : mulF n idF A i j = A i j := by
  unfold mulF
  rw [bsum_one hi (fun t _ hne => by rw [idF_ne (fun e => hne e.symm), zero_gmul]), idF_eq, one_gmul]
theorem mulF_congr {n : Nat} {A A' C C' : Mx} {i j : Nat} (h1 : ∀ t, t < n → A i t = A' i t) (h2 : ∀ t, t < n → C t j = C' t j) : mulF n A C i j = mulF n A' C' i j :=
  bsum_congr fun t ht => by rw [h1 t ht, h2 t ht]
/-- What the identity becomes under row operations that bring A to the identity is the inverse of A on both sides. -/
theorem Ops.inv_left {n : Nat} {d : B} {F : Mx → Mx} (h : Ops n d F) {A : Mx} (hI : ∀ i j, i < n → j < n → F A i j = idF i j) : ∀ i j, i < n → j < n → mulF n (F idF) A i j = idF i j := by
  intro i j hi hj
  rw [← h.mul, ← hI i j hi hj]
  exact h.col (fun a ha => mulF_id_left A ha j) i hi
theorem Ops.inv_right {n : Nat} {d : B} {F : Mx → Mx} (h : Ops n d F) {A : Mx} (hI : ∀ i j, i < n → j < n → F A i j = idF i j) : ∀ i j, i < n → j < n → mulF n A (F idF) i j = idF i j := by
  intro i j hi hj
  refine bx_eq_zero.1 (h.zero (fun i j => mulF n A (F idF) i j ^^^ idF i j) j (fun a ha => ?_) i hi)
  rw [h.add, h.mul]
  show mulF n (F A) (F idF) a j ^^^ F idF a j = 0
  rw [mulF_congr (A' := fun i j => idF i j) (C' := F idF) (fun t ht => hI a t ha ht) (fun t _ => rfl), mulF_id_left _ ha, bx_self]
end Kin
/- The elimination, plain: its row operations, and the form that it gives. -/
namespace Go.Proofs.Ytpkghpljgjlmjaa.K
open Kin
set_option linter.unusedSimpArgs false
set_option linter.unusedVariables false
/-- The elements of a list of rows, 0 outside. -/
def fn (R : List (List B)) : Mx := fun i j => (R.getD i []).getD j 0
theorem fn_out {R : List (List B)} {i : Nat} (h : R.length ≤ i) (j : Nat) : fn R i j = 0 := by
  have e : R.getD i [] = [] := by rw [List.getD_eq_getElem?_getD, List.getElem?_eq_none h]; rfl
  unfold fn
  rw [e]
  rfl
theorem fn_set (R : List (List B)) (a : Nat) (r : List B) (ha : a < R.length) : fn (R.set a r) = upd (fn R) a (fun j => r.getD j 0) := by
  funext i j
  by_cases h : i = a
  · subst h
    rw [upd_at]
    have e : (R.set i r).getD i [] = r := by rw [List.getD_eq_getElem?_getD, List.getElem?_set_self ha]; rfl
    unfold fn
    rw [e]
  · rw [upd_ne _ _ h]
    have e : (R.set a r).getD i [] = R.getD i [] := by rw [List.getD_eq_getElem?_getD, List.getElem?_set_ne (fun e => h e.symm), ← List.getD_eq_getElem?_getD]
    unfold fn
    rw [e]
theorem fn_swap (R : List (List B)) {a b : Nat} (ha : a < R.length) (hb : b < R.length) : fn (swapRows R a b) = swp (fn R) a b := by
  unfold swapRows
  rw [fn_set _ _ _ (by rw [List.length_set]; exact hb), fn_set _ _ _ ha]
  rfl
theorem getD_map_zero (f : B → B) (h0 : f 0 = 0) (l : List B) (j : Nat) : (l.map f).getD j 0 = f (l.getD j 0) := by
  rw [List.getD_eq_getElem?_getD, List.getD_eq_getElem?_getD, List.getElem?_map]
  cases l[j]? with
  | none => exact h0.symm
  | some x => rfl
theorem fn_scale (R : List (List B)) {r : Nat} (c : Nat) (hr : r < R.length) : fn (scaleRow R r c) = upd (fn R) r (fun j => gmul (fn R r j) (ginv (fn R r c))) := by
  unfold scaleRow
  rw [fn_set _ _ _ hr]
  congr 1
  funext j
  rw [getD_map_zero (fun x => gmul x _) (zero_gmul _)]
  rfl
theorem getD_addS {r pr : List B} (h : r.length = pr.length) (c : B) (j : Nat) : (addS r pr c).getD j 0 = r.getD j 0 ^^^ gmul (pr.getD j 0) c := by
  unfold addS
  rw [List.getD_eq_getElem?_getD, List.getElem?_zipWith, List.getD_eq_getElem?_getD, List.getD_eq_getElem?_getD]
  by_cases hj : j < r.length
  · rw [List.getElem?_eq_getElem hj, List.getElem?_eq_getElem (by omega)]
    rfl
  · rw [List.getElem?_eq_none (by omega), List.getElem?_eq_none (by omega)]
    simp [zero_gmul]
theorem fn_clear {R : List (List B)} {m : Nat} (hm : ∀ r ∈ R, r.length = m) {row : Nat} (col : Nat) (hr : row < R.length) : fn (clearRows R row col) = fun i j => if i = row then fn R row j else fn R i j ^^^ gmul (fn R row j) (fn R i col) := by
  funext i j
  by_cases hi : i < R.length
  · have e : (clearRows R row col).getD i [] = if i ≠ row then clearRow (R.getD row []) col (R.getD i []) else R.getD i [] := by
      unfold clearRows
      rw [List.getD_eq_getElem?_getD, List.getElem?_mapIdx, List.getElem?_eq_getElem hi, List.getD_eq_getElem?_getD, List.getD_eq_getElem?_getD, List.getElem?_eq_getElem hi]
      rfl
    show ((clearRows R row col).getD i []).getD j 0 = _
    rw [e]
    by_cases h : i = row
    · rw [if_neg (fun x => x h), if_pos h, h]; rfl
    · rw [if_pos h, if_neg h]
      unfold clearRow
      by_cases hz : (R.getD i []).getD col 0 = 0
      · rw [if_pos hz]
        show fn R i j = fn R i j ^^^ gmul (fn R row j) ((R.getD i []).getD col 0)
        rw [hz, gmul_zero, bx_zero]
      · rw [if_neg hz, getD_addS (by rw [hm _ (getD_mem' hi), hm _ (getD_mem' hr)])]
        rfl
  · rw [fn_out (by rw [clearRows_length]; omega), if_neg (by omega), fn_out (R := R) (i := i) (by omega), fn_out (R := R) (i := i) (by omega), gmul_zero, bx_zero]
theorem elimStep_fn {s : ES} {m : Nat} (hm : ∀ r ∈ s.1, r.length = m) {col q : Nat} (h : findRow s.1 s.2.1.length col = some q) :
    fn (elimStep s col).1 = rowop s.2.1.length q (ginv (fn s.1 q col)) (fun i => swp (fn s.1) s.2.1.length q i col) (fn s.1) ∧ (elimStep s col).2.1 = s.2.1 ++ [col] ∧ (elimStep s col).2.2 = gmul s.2.2 (fn s.1 q col) := by
  have hq := findRow_some h
  have hS := fn_swap s.1 (a := s.2.1.length) (b := q) (by omega) (by omega)
  have hp : swp (fn s.1) s.2.1.length q s.2.1.length col = fn s.1 q col := by
    rw [swp_row]
    by_cases e : s.2.1.length = q
    · rw [if_pos e, e]
    · rw [if_neg e, if_pos rfl]
  have e : elimStep s col = (clearRows (scaleRow (swapRows s.1 s.2.1.length q) s.2.1.length col) s.2.1.length col, s.2.1 ++ [col], gmul s.2.2 (((swapRows s.1 s.2.1.length q).getD s.2.1.length []).getD col 0)) := by
    unfold elimStep
    rw [h]
  rw [e]
  refine ⟨?_, rfl, ?_⟩
  · have h1 := swapRows_rows hm (i := s.2.1.length) (j := q) (by omega) (by omega)
    have h2 := scaleRow_rows h1 (i := s.2.1.length) col (by rw [swapRows_length]; omega)
    show fn (clearRows (scaleRow (swapRows s.1 s.2.1.length q) s.2.1.length col) s.2.1.length col) = _
    rw [fn_clear h2 col (by rw [scaleRow_length, swapRows_length]; omega), fn_scale _ col (by rw [swapRows_length]; omega), hS, hp]
    funext i j
    unfold rowop
    by_cases hi : i = s.2.1.length
    · rw [if_pos hi, if_pos hi, upd_at]
    · rw [if_neg hi, if_neg hi, upd_ne _ _ hi, upd_at]
  · show gmul s.2.2 (fn (swapRows s.1 s.2.1.length q) s.2.1.length col) = _
    rw [hS, hp]
theorem elim_ops {R : List (List B)} {m : Nat} (hm : ∀ r ∈ R, r.length = m) (cols : Nat) : ∃ F, Ops R.length (elimRun R cols).2.2 F ∧ fn (elimRun R cols).1 = F (fn R) := by
  induction cols with
  | zero => exact ⟨_, Ops.none _, rfl⟩
  | succ n ih =>
    obtain ⟨F, hF, hf⟩ := ih
    rw [elimRun_succ]
    have hl := elimRun_length R n
    cases hfind : findRow (elimRun R n).1 (elimRun R n).2.1.length n with
    | none =>
      have e : elimStep (elimRun R n) n = elimRun R n := by
        unfold elimStep
        rw [hfind]
      rw [e]
      exact ⟨F, hF, hf⟩
    | some q =>
      obtain ⟨h1, h2, h3⟩ := elimStep_fn (elimRun_rows hm n) hfind
      have hq := findRow_some hfind
      rw [h3, h1]
      refine ⟨_, hF.comp (Ops.one (k := (elimRun R n).2.1.length) (q := q) (by omega) (by omega) hq.2.2 (fun i => swp (fn (elimRun R n).1) (elimRun R n).2.1.length q i n)), ?_⟩
      rw [← hf]
      rfl
/-- The form that the elimination gives. -/
structure Form (A : Mx) (len cols : Nat) (piv : List Nat) : Prop where
  le : piv.length ≤ len
  inc : ∀ a b, a < b → b < piv.length → piv.getD a 0 < piv.getD b 0
  lt : ∀ a, a < piv.length → piv.getD a 0 < cols
  unit : ∀ a, a < piv.length → ∀ i, i < len → A i (piv.getD a 0) = if i = a then 1 else 0
  zero : ∀ i, piv.length ≤ i → i < len → ∀ j, j < cols → A i j = 0
theorem getD_append_left {l : List Nat} {x a : Nat} (h : a < l.length) : (l ++ [x]).getD a 0 = l.getD a 0 := by
  rw [List.getD_eq_getElem?_getD, List.getElem?_append_left h, ← List.getD_eq_getElem?_getD]
theorem getD_append_at (l : List Nat) (x : Nat) : (l ++ [x]).getD l.length 0 = x := by
  rw [List.getD_eq_getElem?_getD, List.getElem?_append_right (Nat.le_refl _)]
  simp
theorem findRow_none {R : List (List B)} {row col : Nat} (h : findRow R row col = none) {i : Nat} (h1 : row ≤ i) (h2 : i < R.length) : fn R i col = 0 := by
  unfold findRow at h
  rw [List.find?_range_eq_none] at h
  have := h i h2
  simp only [Bool.not_eq_true', Bool.and_eq_false_iff, decide_eq_false_iff_not] at this
  rcases this with e | e
  · exact absurd h1 e
  · exact Decidable.not_not.1 e
theorem elim_form {R : List (List B)} {m : Nat} (hm : ∀ r ∈ R, r.length = m) (cols : Nat) : Form (fn (elimRun R cols).1) R.length cols (elimRun R cols).2.1 := by
  induction cols with
  | zero => exact ⟨Nat.zero_le _, fun a b h hb => absurd hb (Nat.not_lt_zero _), fun a h => absurd h (Nat.not_lt_zero _), fun a h => absurd h (Nat.not_lt_zero _), fun _ _ _ j hj => absurd hj (Nat.not_lt_zero _)⟩
  | succ n ih =>
    rw [elimRun_succ]
    have hl := elimRun_length R n
    cases hfind : findRow (elimRun R n).1 (elimRun R n).2.1.length n with
    | none =>
      have e : elimStep (elimRun R n) n = elimRun R n := by
        unfold elimStep
        rw [hfind]
      rw [e]
      refine ⟨ih.le, ih.inc, fun a h => by have := ih.lt a h; omega, ih.unit, fun i h1 h2 j hj => ?_⟩
      by_cases ej : j = n
      · subst ej
        exact findRow_none hfind h1 (by omega)
      · exact ih.zero i h1 h2 j (by omega)
    | some q =>
      obtain ⟨h1, h2, h3⟩ := elimStep_fn (elimRun_rows hm n) hfind
      have hq := findRow_some hfind
      rw [h1, h2]
      generalize hk : (elimRun R n).2.1.length = k at *
      generalize hA : fn (elimRun R n).1 = A at *
      generalize hpv : (elimRun R n).2.1 = piv at *
      have hp : A q n ≠ 0 := by rw [← hA]; exact hq.2.2
      have hSk : ∀ j, swp A k q k j = A q j := by
        intro j
        rw [swp_row]
        by_cases e : k = q
        · rw [if_pos e, e]
        · rw [if_neg e, if_pos rfl]
      have hl1 : (piv ++ [n]).length = k + 1 := by simp; omega
      have unitn : ∀ i, i < R.length → rowop k q (ginv (A q n)) (fun i => swp A k q i n) A i n = if i = k then 1 else 0 := by
        intro i hi
        unfold rowop
        by_cases e : i = k
        · rw [if_pos e, if_pos e, hSk, gmul_ginv _ hp]
        · rw [if_neg e, if_neg e, hSk, gmul_ginv _ hp, one_gmul, bx_self]
      refine ⟨by omega, fun a b hab hb => ?_, fun a ha => ?_, fun a ha i hi => ?_, fun i g1 g2 j hj => ?_⟩
      · rw [hl1] at hb
        rw [getD_append_left (by omega)]
        by_cases e : b = k
        · subst e
          rw [show (piv ++ [n]).getD b 0 = n by rw [← hk]; exact getD_append_at piv n]
          exact ih.lt a (by omega)
        · rw [getD_append_left (by omega)]
          exact ih.inc a b hab (by omega)
      · rw [hl1] at ha
        by_cases e : a = k
        · subst e
          rw [show (piv ++ [n]).getD a 0 = n by rw [← hk]; exact getD_append_at piv n]
          omega
        · rw [getD_append_left (by omega)]
          have := ih.lt a (by omega)
          omega
      · rw [hl1] at ha
        by_cases e : a = k
        · subst e
          rw [show (piv ++ [n]).getD a 0 = n by rw [← hk]; exact getD_append_at piv n]
          exact unitn i hi
        · have hak : a < k := by omega
          rw [getD_append_left (by omega)]
          have hz : A q (piv.getD a 0) = 0 := by
            rw [ih.unit a (by omega) q (by omega), if_neg (by omega)]
          unfold rowop
          rw [hSk, hz, zero_gmul, zero_gmul]
          by_cases e1 : i = k
          · rw [if_pos e1, if_neg (by omega)]
          · rw [if_neg e1, bx_zero, swp_row]
            by_cases e2 : i = q
            · rw [if_pos e2, ih.unit a (by omega) k (by omega), if_neg (by omega), if_neg (by omega)]
            · rw [if_neg e2, if_neg e1]
              exact ih.unit a (by omega) i hi
      · rw [hl1] at g1
        by_cases e : j = n
        · subst e
          rw [unitn i g2, if_neg (by omega)]
        · have hz : A q j = 0 := ih.zero q (by omega) (by omega) j (by omega)
          unfold rowop
          rw [hSk, hz, zero_gmul, zero_gmul, if_neg (by omega), bx_zero, swp_row]
          refine ih.zero _ ?_ ?_ j (by omega)
          · split
            · omega
            · split <;> omega
          · split
            · omega
            · split <;> omega
end Go.Proofs.Ytpkghpljgjlmjaa.K
/- few, Valid and Cols of the law and the reference, plain. -/
namespace Go.Proofs.Ytpkghpljgjlmjaa.K
open Go.RowKit Go.Proofs.YtpkghpljgjlmjaaW.PrintWords Go.Proofs.YtpkghpljgjlmjaaW.PrintLast Go.Proofs.YtpkghpljgjlmjaaW.PrintMore Kin
set_option linter.unusedSimpArgs false
set_option linter.unusedVariables false
theorem wrap_nx' (i : Nat) (h : i < 9223372036854775807) : wrap64 ((i : Int) + 1) = ((i + 1 : Nat) : Int) := by rw [wrap_small _ (by omega) (by omega)]; rfl
end Go.Proofs.Ytpkghpljgjlmjaa.K
/- Products of the program and of the reference, plain: both are the sums of products. -/
namespace Go.Proofs.Ytpkghpljgjlmjaa.K
open Go.RowKit Go.Proofs.YtpkghpljgjlmjaaW.PrintWords Go.Proofs.YtpkghpljgjlmjaaW.PrintLast Go.Proofs.YtpkghpljgjlmjaaW.PrintMore Kin
set_option linter.unusedSimpArgs false
set_option linter.unusedVariables false
/-- With rounds enough, F tells r. -/
def Evt {α : Type} (F : Nat → Option α) (r : α) : Prop := ∃ K, ∀ k, K ≤ k → F k = some r
theorem Evt.of {α : Type} {F : Nat → Option α} {r : α} (K : Nat) (h : ∀ k, K ≤ k → F k = some r) : Evt F r := ⟨K, h⟩
theorem Evt.succ {α : Type} {F G : Nat → Option α} {r : α} (h : Evt G r) (e : ∀ k, 300 ≤ k → F (k + 1) = G k) : Evt F r := by
  obtain ⟨K, h⟩ := h
  refine ⟨K + 301, fun k hk => ?_⟩
  obtain ⟨k, rfl⟩ : ∃ j, k = j + 1 := ⟨k - 1, by omega⟩
  rw [e k (by omega), h k (by omega)]
/-- The elements el i k in rows of cols. -/
def tabM (rows cols : Nat) (el : Nat → Nat → B) : List (List B) := (List.range rows).map fun i => (List.range cols).map fun k => el i k
theorem tabM_length (rows cols : Nat) (el : Nat → Nat → B) : (tabM rows cols el).length = rows := by simp [tabM]
theorem tabM_rows (rows cols : Nat) (el : Nat → Nat → B) : ∀ r ∈ tabM rows cols el, r.length = cols := by
  intro r hr
  obtain ⟨i, _, rfl⟩ := List.mem_map.1 hr
  simp
theorem tabM_fn {rows cols : Nat} (el : Nat → Nat → B) {i k : Nat} (hi : i < rows) (hk : k < cols) : fn (tabM rows cols el) i k = el i k := by
  have e : (tabM rows cols el).getD i [] = (List.range cols).map fun k => el i k := by
    unfold tabM
    rw [List.getD_eq_getElem?_getD, List.getElem?_map, List.getElem?_range hi]
    rfl
  unfold fn
  rw [e, List.getD_eq_getElem?_getD, List.getElem?_map, List.getElem?_range hk]
  rfl
theorem row_at {A : List (List B)} {i : Nat} (h : i < A.length) : A.getD i [] = A[i] := by
  rw [List.getD_eq_getElem?_getD, List.getElem?_eq_getElem h]; rfl
theorem mat_ext {A C : List (List B)} {r c : Nat} (h1 : A.length = r) (h2 : C.length = r) (hA : ∀ x ∈ A, x.length = c) (hC : ∀ x ∈ C, x.length = c) (h : ∀ i j, i < r → j < c → fn A i j = fn C i j) : A = C := by
  refine List.ext_getElem (by omega) (fun i g1 g2 => ?_)
  have a := hA _ (List.getElem_mem g1)
  have b := hC _ (List.getElem_mem g2)
  refine List.ext_getElem (by omega) (fun j g3 g4 => ?_)
  have := h i j (by omega) (by omega)
  unfold fn at this
  rw [row_at g1, row_at g2, List.getD_eq_getElem?_getD, List.getD_eq_getElem?_getD, List.getElem?_eq_getElem g3, List.getElem?_eq_getElem g4] at this
  exact this
def mulM (A C : List (List B)) (cols : Nat) : List (List B) := tabM A.length cols (mulF C.length (fn A) (fn C))
theorem applyPart_getD {n : Nat} {row : List B} {bs : List (List B)} (hb : ∀ b ∈ bs, b.length = n) (c : Nat) : ∀ k, k ≤ row.length → k ≤ bs.length → (applyPart n row bs k).getD c 0 = bsum k (fun j => gmul (row.getD j 0) (fn bs j c)) := by
  intro k
  induction k with
  | zero =>
    intro _ _
    rw [applyPart_zero, List.getD_eq_getElem?_getD]
    by_cases h : c < n
    · rw [List.getElem?_replicate, if_pos h]; rfl
    · rw [List.getElem?_replicate, if_neg h]; rfl
  | succ k ih =>
    intro h1 h2
    rw [applyPart_succ n row bs k (by omega) (by omega), getD_addS (by rw [applyPart_length n row bs hb, hb _ (getD_mem' (by omega))]), ih (by omega) (by omega), gmul_comm (((bs.getD k []).getD c 0)) (row.getD k 0)]
    rfl
theorem applyM_eq {n : Nat} {M Bs : List (List B)} (hM : ∀ r ∈ M, r.length = Bs.length) (hb : ∀ b ∈ Bs, b.length = n) : applyM n M Bs = mulM M Bs n := by
  have hl : ∀ r ∈ M, (applyRow n r Bs).length = n := by
    intro r hr
    rw [← applyPart_all n r Bs r.length (Nat.le_refl _)]
    exact applyPart_length n r Bs hb _
  refine mat_ext (r := M.length) (c := n) (by simp [applyM]) (tabM_length _ _ _) ?_ (tabM_rows _ _ _) (fun i j hi hj => ?_)
  · intro x hx
    obtain ⟨r, hr, rfl⟩ := List.mem_map.1 hx
    exact hl r hr
  · rw [mulM, tabM_fn _ hi hj]
    have e : (applyM n M Bs).getD i [] = applyRow n (M.getD i []) Bs := by
      unfold applyM
      rw [List.getD_eq_getElem?_getD, List.getElem?_map, List.getElem?_eq_getElem hi, row_at hi]
      rfl
    have hr := hM _ (getD_mem' hi)
    unfold fn
    rw [e, ← applyPart_all n _ Bs (M.getD i []).length (Nat.le_refl _), applyPart_getD hb j _ (Nat.le_refl _) (by omega), hr]
    rfl
section
variable {A C : List (List B)} {cols : Nat}
end
/-- What Mul answers: the product, or an error. -/
theorem mul_up (A C : List (List B)) (hA : validB A = true) (hC : validB C = true) (hl : colsN A = C.length) {k : Nat} (hk : 100 ≤ k) : matrix_Mul.f k (up2 A) (up2 C) = some (up2 (mulM A C (colsN C)), 0) := by
  obtain ⟨k, rfl⟩ : ∃ j, k = j + 1 := ⟨k - 1, by omega⟩
  obtain ⟨a1, a2, a3⟩ := validB_lim hA
  obtain ⟨b1, b2, b3⟩ := validB_lim hC
  unfold matrix_Mul.f
  rw [matrix_Valid.f, matrix_Valid.f, validB_up2, validB_up2, hA, hC, columns_eq, colsN_up2, hl, up2_length]
  simp only [Option.bind_some, if_pos, matrix_Mul.j0]
  rw [if_neg (by simp), up2_length, up2_length]
  by_cases h0 : C.length = 0
  · rw [if_pos (by omega)]
    have e : C = [] := List.eq_nil_of_length_eq_zero h0
    subst e
    have hz := zero_eq A.length 0 (by omega) (by omega) (k := k) (by omega)
    rw [show ((0 : Nat) : Int) = 0 from rfl] at hz
    rw [hz]
    simp only [Option.bind_some]
    rw [zeros_up2]
    congr 3
    refine mat_ext (r := A.length) (c := 0) (by simp) (tabM_length _ _ _) ?_ (tabM_rows _ _ _) (fun i j _ hj => absurd hj (by omega))
    intro x hx
    rw [List.eq_of_mem_replicate hx]; rfl
  · rw [if_neg (by omega), apply_up A C hA hl.symm b3 (by omega)]
    simp only [Option.bind_some]
    rw [applyM_eq (fun r hr => by rw [a3 r hr, hl]) b3]
end Go.Proofs.Ytpkghpljgjlmjaa.K
/- Transposed matrices and picked rows, plain. -/
namespace Go.Proofs.Ytpkghpljgjlmjaa.K
open Go.RowKit Go.Proofs.YtpkghpljgjlmjaaW.PrintWords Go.Proofs.YtpkghpljgjlmjaaW.PrintLast Go.Proofs.YtpkghpljgjlmjaaW.PrintMore Kin
set_option linter.unusedSimpArgs false
set_option linter.unusedVariables false
section
variable {M : List (List B)} {n : Nat}
end
/-- An index of a row. -/
def okIx (n : Nat) (x : Int) : Prop := 0 ≤ x ∧ x < (n : Int)
instance (n : Nat) (x : Int) : Decidable (okIx n x) := inferInstanceAs (Decidable (_ ∧ _))
section
variable {M : List (List B)} {l : List Int} {n : Nat}
end
end Go.Proofs.Ytpkghpljgjlmjaa.K
/- Determinant of package matrix: the walk. -/
namespace Go.Proofs.Ytpkghpljgjlmjaa.K
open Go.RowKit Go.Proofs.YtpkghpljgjlmjaaW.PrintWords Go.Proofs.YtpkghpljgjlmjaaW.PrintLast Go.Proofs.YtpkghpljgjlmjaaW.PrintMore Kin
set_option linter.unusedVariables false
set_option linter.unusedSimpArgs false
def squareB {α : Type} (l : List (List α)) : Bool := validB l && decide (colsN l = l.length)
theorem square_eq (l : List (List Int)) : matrix_square.f l = some (squareB l) := by
  unfold matrix_square.f squareB
  rw [matrix_Valid.f, columns_eq]
  cases validB l <;> simp
  rw [Bool.eq_iff_iff]
  simp; omega
theorem squareB_up2 (M : List (List B)) : squareB (up2 M) = squareB M := by unfold squareB; rw [validB_up2, colsN_up2, up2_length]
theorem squareB_lim {α : Type} {M : List (List α)} (h : squareB M = true) : M.length ≤ 64 ∧ ∀ r ∈ M, r.length = M.length := by
  simp only [squareB, Bool.and_eq_true, decide_eq_true_eq] at h
  obtain ⟨h1, h2, h3⟩ := validB_lim h.1
  rw [h.2] at h3
  exact ⟨h1, h3⟩
end Go.Proofs.Ytpkghpljgjlmjaa.K
/- Inverse of package matrix: what it computes; its contract. -/
namespace Go.Proofs.Ytpkghpljgjlmjaa.K
open Go.RowKit Go.Proofs.YtpkghpljgjlmjaaW.PrintWords Go.Proofs.YtpkghpljgjlmjaaW.PrintLast Go.Proofs.YtpkghpljgjlmjaaW.PrintMore Kin
set_option linter.unusedSimpArgs false
set_option linter.unusedVariables false
theorem concat2_b (a b : List B) (ha : a.length ≤ 1000) (hb : b.length ≤ 1000) {k : Nat} (hk : 10 ≤ k) : slices_Concat_byte_byte.f k [up a, up b] = some (up (a ++ b)) := by
  obtain ⟨k, rfl⟩ : ∃ j, k = j + 10 := ⟨k - 10, by omega⟩
  have la := up_length a
  have lb := up_length b
  unfold slices_Concat_byte_byte.f
  have e0 : rd_L1 [up a, up b] 0 = up a := rfl
  have e1 : rd_L1 [up a, up b] 1 = up b := rfl
  have w1 : wrap64 (0 + ((up a).length : Int)) = (a.length : Int) := by rw [wrap_small _ (by omega) (by omega)]; omega
  have w2 : wrap64 ((a.length : Int) + ((up b).length : Int)) = ((a.length + b.length : Nat) : Int) := by rw [wrap_small _ (by omega) (by omega)]; omega
  have s1 : wrap64 (0 + 1) = 1 := by rw [wrap_small _ (by omega) (by omega)]; rfl
  have s2 : wrap64 (1 + 1) = 2 := by rw [wrap_small _ (by omega) (by omega)]; rfl
  simp only [slices_Concat_byte_byte.l0]
  rw [if_pos (by simp), if_pos (by omega), if_pos (by simp), e0, w1, if_neg (by omega), s1, if_pos (by simp), if_pos (by omega), if_pos (by simp), e1, w2, if_neg (by omega), s2, if_neg (by simp), slices_Grow_byte_byte.f, if_pos ⟨rfl, by omega, by omega⟩]
  simp only [Option.bind_some, slices_Concat_byte_byte.l1]
  rw [if_pos (by simp), if_pos (by omega), if_pos (by simp), e0, if_pos (by simp; omega), s1, if_pos (by simp), if_pos (by omega), if_pos (by simp), e1, if_pos (by simp; omega), s2, if_neg (by simp), up_append]
  rfl
/-- M beside the identity. -/
def wideI (M : List (List B)) (n : Nat) : List (List B) := (List.range n).map fun a => M.getD a [] ++ (idM n).getD a []
def wiU (M : List (List B)) (n i : Nat) : List (List B) := (List.range n).map fun a => if a < i then M.getD a [] ++ (idM n).getD a [] else []
theorem wiU_length (M : List (List B)) (n i : Nat) : (wiU M n i).length = n := by simp [wiU]
theorem wiU_zero (M : List (List B)) (n : Nat) : wiU M n 0 = List.replicate n [] := by
  refine List.ext_getElem (by simp [wiU]) (fun a h1 h2 => ?_)
  simp [wiU]
theorem wiU_all (M : List (List B)) (n : Nat) : wiU M n n = wideI M n := by
  unfold wiU wideI
  refine List.map_congr_left fun a ha => ?_
  rw [List.mem_range] at ha
  rw [if_pos ha]
theorem wiU_step (M : List (List B)) (n i : Nat) (hi : i < n) : (wiU M n i).set i (M.getD i [] ++ (idM n).getD i []) = wiU M n (i + 1) := by
  refine List.ext_getElem (by rw [List.length_set, wiU_length, wiU_length]) (fun a h1 h2 => ?_)
  rw [List.getElem_set]
  simp only [wiU, List.getElem_map, List.getElem_range]
  by_cases ha : i = a
  · subst ha
    rw [if_pos rfl, if_pos (by omega)]
  · rw [if_neg ha]
    by_cases h : a < i
    · rw [if_pos h, if_pos (by omega)]
    · rw [if_neg h, if_neg (by omega)]
theorem idM_length (n : Nat) : (idM n).length = n := by simp [idM]
theorem idM_rows (n : Nat) : ∀ r ∈ idM n, r.length = n := by
  intro r hr
  obtain ⟨a, _, rfl⟩ := List.mem_map.1 hr
  simp
theorem wideI_rows {M : List (List B)} {n : Nat} (hl : M.length = n) (hM : ∀ r ∈ M, r.length = n) : ∀ r ∈ wideI M n, r.length = n + n := by
  intro r hr
  obtain ⟨a, ha, rfl⟩ := List.mem_map.1 hr
  rw [List.mem_range] at ha
  rw [List.length_append, hM _ (getD_mem' (by omega)), idM_rows n _ (getD_mem' (by rw [idM_length]; exact ha))]
theorem winv_l0 {M : List (List B)} {n : Nat} (hl : M.length = n) (hM : ∀ r ∈ M, r.length = n) (hn : n ≤ 64) (m : Nat) :
    ∀ i, i + m = n → Evt (fun K => winv.l0 K (up2 M) (up2 (wiU M n i)) (up2 (idM n)) (n : Int) (i : Int)) (up2 (wideI M n), 0) := by
  induction m with
  | zero =>
    intro i hi
    obtain rfl : i = n := by omega
    refine Evt.of 1 fun K hK => ?_
    obtain ⟨K, rfl⟩ : ∃ j, K = j + 1 := ⟨K - 1, by omega⟩
    simp only [winv.l0]
    rw [if_neg (by omega), wiU_all]
  | succ m ih =>
    intro i hi
    refine (ih (i + 1) (by omega)).succ fun K hK => ?_
    have l1 : (M.getD i []).length = n := hM _ (getD_mem' (by omega))
    have l2 : ((idM n).getD i []).length = n := idM_rows n _ (getD_mem' (by rw [idM_length]; omega))
    simp only [winv.l0]
    rw [if_pos (by omega), if_pos (by omega), if_pos (by rw [up2_length, idM_length]; omega), if_pos (by rw [up2_length]; omega), rd_L1_up2, rd_L1_up2, concat2_b _ _ (by omega) (by omega) (by omega)]
    simp only [Option.bind_some]
    rw [if_pos (by rw [up2_length, wiU_length]; omega), Int.toNat_natCast, set_up2, wiU_step M n i (by omega), wrap_nx' _ (by omega)]
theorem winv_good {M : List (List B)} (hs : squareB M = true) : Evt (fun K => winv.f K (up2 M)) (up2 (wideI M M.length), 0) := by
  obtain ⟨h1, h2⟩ := squareB_lim hs
  obtain ⟨K, h⟩ := winv_l0 (M := M) rfl h2 h1 M.length 0 (by omega)
  refine ⟨K + 100, fun k hk => ?_⟩
  unfold winv.f
  rw [square_eq, squareB_up2, hs, up2_length]
  simp only [Option.bind_some, if_true]
  rw [if_pos (by omega), if_pos (by rw [Int.toNat_natCast]; omega), identity_b M.length h1 (by omega)]
  simp only [Option.bind_some]
  rw [Int.toNat_natCast, up2_length, idM_length, show List.replicate M.length ([] : List Int) = up2 (wiU M M.length 0) by rw [wiU_zero, ← up2_replicate]; rfl]
  exact h k (by omega)
/-- The inverse by elimination, with the code. -/
def invM (M : List (List B)) : List (List B) × Int := if (elimRun (wideI M M.length) M.length).2.1.length < M.length then ([], 4) else (invU (elimRun (wideI M M.length) M.length).1 M.length M.length, 0)
def matrix_Inverse.f (l0 : List (List Int)) : Option ((List (List Int)) × Int) :=
  if squareB l0 = true then (if bytes2 l0 = true ∧ l0.length ≤ 32 then some (up2 (invM (toB2 l0)).1, (invM (toB2 l0)).2) else none) else some ([], 1)
theorem inverse_up (M : List (List B)) (hv : squareB M = true) (hn : M.length ≤ 32) : matrix_Inverse.f (up2 M) = some (up2 (invM M).1, (invM M).2) := by
  unfold matrix_Inverse.f
  rw [if_pos (by rw [squareB_up2]; exact hv), if_pos ⟨bytes2_up2 M, by rw [up2_length]; exact hn⟩, toB2_up2]
theorem matrix_Inverse.calls (A0 : Option Addr) (c0 : Nat) (l0 : List (List Int)) (r1 : List (List Int)) (r2 : Int) (w : World) (hr0 : Kd.C (Kd.slice 5 (Kd.int .u8)) w A0 l0.length l0) (hc0 : l0.length ≤ c0) (h : matrix_Inverse.f l0 = some (r1, r2)) :
    Calls Try.prog 42 #[.slice A0 l0.length c0] w fun e w' => ∃ v0_ : Value, e = .returned (.tuple #[v0_, .int .i64 r2]) ∧ Kd.S (Kd.slice 5 (Kd.int .u8)) 34 w' w.heap.size (fun _ => True) v0_ r1 ∧ Below w.heap.size w w' := by
  have hV := V_of_C hr0 hc0 w.heap.size
  unfold matrix_Inverse.f at h
  by_cases hs : squareB l0 = true
  · rw [if_pos hs] at h
    split at h
    · rename_i hb
      obtain ⟨M, rfl⟩ := exists_bytes2 hb.1
      have hsM : squareB M = true := by rw [← squareB_up2]; exact hs
      have hn : M.length ≤ 32 := by have := hb.2; rwa [up2_length] at this
      obtain ⟨h1, h2⟩ := squareB_lim hsM
      obtain ⟨K, hK⟩ := winv_good hsM
      rw [toB2_up2] at h
      have hc := inverse_calls K (fun _ => True) A0 c0 (up2 M) (up2 (wideI M M.length)) 0 w hV (fun _ => ⟨wideI M M.length, rfl, by rw [up2_length]; simp [wideI], by rw [up2_length]; exact hn, by rw [up2_length]; exact wideI_rows rfl h2⟩) (hK K (Nat.le_refl _))
      have e1 : invCode (up2 (wideI M M.length)) 0 (up2 M).length = r2 ∧ invVal (up2 (wideI M M.length)) 0 (up2 M).length = r1 := by
        simp only [Option.some.injEq, Prod.mk.injEq] at h
        rw [← h.1, ← h.2, up2_length]
        unfold invCode invVal invE invM
        rw [toB2_up2, if_pos rfl, if_pos rfl]
        by_cases hlt : (elimRun (wideI M M.length) M.length).2.1.length < M.length
        · rw [if_pos hlt, if_pos hlt, if_pos hlt]; exact ⟨rfl, rfl⟩
        · rw [if_neg hlt, if_neg hlt, if_neg hlt]; exact ⟨rfl, rfl⟩
      rw [e1.1, e1.2] at hc
      exact hc
    · cases h
  · rw [if_neg hs] at h
    simp only [Option.some.injEq, Prod.mk.injEq] at h
    obtain ⟨rfl, rfl⟩ := h
    have hw : winv.f 0 l0 = some ([], 1) := by
      unfold winv.f
      rw [square_eq, show squareB l0 = false by simpa using hs]
      rfl
    have hc := inverse_calls 0 (fun _ => True) A0 c0 l0 [] 1 w hV (fun e => by cases e) hw
    exact hc
end Go.Proofs.Ytpkghpljgjlmjaa.K
