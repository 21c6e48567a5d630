/- Walks and plain facts behind the laws of package matrix. No conditions. -/
import Derived.Test.YtpkghpljgjlmjaaB1
import Derived.Deep.RegionHeld3
import Derived.Deep.RegionWith
import Derived.StillTactics
import Derived.Outline
/- matrix.Apply: the walk. -/
namespace Go.Proofs.Ytpkghpljgjlmjaa.K
open Go.RowKit Go.Proofs.YtpkghpljgjlmjaaW.PrintWords Go.Proofs.YtpkghpljgjlmjaaW.PrintLast Go.Proofs.YtpkghpljgjlmjaaW.PrintMore Kin
set_option linter.unusedVariables false

theorem enters65 (args : Array Value) (w : World) : (callFunc 65 args).run Try.prog w = .ok (.enter 65 args) w := by
  go_simp
/-- 'len(b) != n', n a captured variable. -/
theorem apply1_calls (n : Nat) (hn : n ≤ 9223372036854775807) (a : Addr) (A : Option Addr) (c : Nat) (x : List Int) (w : World) (hc : w.cell? a = some (.int .i64 (n : Int))) (hx : x.length ≤ 9223372036854775807) :
    Calls Try.prog 65 #[.slice A x.length c, .pointer (some a)] w fun e w' => e = .returned (.bool (decide (x.length ≠ n))) ∧ w = w' := by
  by_cases h : x.length = n
  · have h1 : ((x.length : Int) != (n : Int)) = false := by rw [bne_eq_false_iff_eq]; omega
    have h2 : decide (x.length ≠ n) = false := by simp [h]
    have H := Aside0.mk h2
    clear h h2
    go_enter Try.func65, Try.ntmps65
    go_wp2
    go_ret
    exact ⟨by rw [H.out]; rfl, rfl⟩
  · have h1 : ((x.length : Int) != (n : Int)) = true := by rw [bne_iff_ne]; omega
    have h2 : decide (x.length ≠ n) = true := by simp [h]
    have H := Aside0.mk h2
    clear h h2
    go_enter Try.func65, Try.ntmps65
    go_wp2
    go_ret
    exact ⟨by rw [H.out]; rfl, rfl⟩
theorem tests65 (n : Nat) (hn : n ≤ 9223372036854775807) (a : Addr) (w : World) (hc : w.cell? a = some (.int .i64 (n : Int))) : Tests w 65 (.pointer (some a)) (fun x => decide (x.length ≠ n)) :=
  ⟨enters65, fun A c x hx _ => apply1_calls n hn a A c x w hc hx.2.1⟩
theorem colsN_le {w : World} {A : Option Addr} {l : List (List Int)} (h : Kd.C (Kd.slice 5 (Kd.int .u8)) w A l.length l) : colsN l ≤ 9223372036854775807 := by
  unfold colsN
  cases l with
  | nil => simp
  | cons x l =>
    obtain ⟨ad, A1, c1, _, _, _, hi⟩ := at_L1 h 0 (by omega) (by simp)
    exact hi.2.1
set_option maxRecDepth 100000 in
set_option maxHeartbeats 1000000 in
/-- m is no matrix, or there are not as many blocks as columns. -/
theorem apply_bad1 (A0 A1 : Option Addr) (c0 c1 : Nat) (l0 l1 : List (List Int)) (w : World) (hr0 : Kd.C (Kd.slice 5 (Kd.int .u8)) w A0 l0.length l0) (hc0 : l0.length ≤ c0) (hb : validB l0 = false ∨ l1.length ≠ colsN l0) (hn : l1.length ≤ 9223372036854775807) :
    Calls Try.prog 32 #[.slice A0 l0.length c0, .slice A1 l1.length c1] w fun e w' => e = .returned (.tuple #[.slice none 0 0, .int .i64 1]) ∧ Below w.heap.size w w' := by
  have HR0 := Aside0.mk hr0
  have HC0 := Aside0.mk hc0
  have hcl := colsN_le hr0
  clear hr0 hc0
  cases hv : validB l0 with
  | false =>
    have HV := Aside0.mk (show matrix_Valid.f l0 = some false by rw [matrix_Valid.f, hv])
    clear hv hb
    go_enter Try.func32, Try.ntmps32
    go_wp2_with (first | (go_at_call 17; (with_reducible refine (matrix_Valid.calls _ _ l0 _ _ HR0.out HC0.out HV.out).mono ?_); rintro e w1 ⟨rfl, hb⟩; have HB := Aside0.mk hb; clear hb))
    go_ret2
    exact ⟨rfl, HB.out⟩
  | true =>
    have HV := Aside0.mk (show matrix_Valid.f l0 = some true by rw [matrix_Valid.f, hv])
    have hne : ((l1.length : Int) != (colsN l0 : Int)) = true := by
      rw [bne_iff_ne]
      rcases hb with h | h
      · rw [hv] at h; cases h
      · omega
    have HF := Aside0.mk (columns_eq l0)
    clear hv hb
    go_enter Try.func32, Try.ntmps32
    go_wp2_with (first | (go_at_call 17; (with_reducible refine (matrix_Valid.calls _ _ l0 _ _ HR0.out HC0.out HV.out).mono ?_); rintro e w1 ⟨rfl, hb⟩; have HB := Aside0.mk hb; clear hb) | (go_at_call 56; (with_reducible refine (matrix_columns.calls _ _ l0 _ _ (Kd.C_below HR0.out HB.out) HC0.out HF.out).mono ?_); rintro e w' ⟨rfl, ⟨n1, rfl⟩⟩))
    go_ret2
    exact ⟨rfl, pw_below_drewN HB.out _⟩
theorem rd_L1_up2 (m : List (List B)) (i : Nat) : rd_L1 (up2 m) (i : Int) = up (m.getD i []) := by
  simp only [rd_L1, up2, Int.toNat_natCast, List.getD_eq_getElem?_getD, List.getElem?_map]
  cases m[i]? <;> rfl
theorem getD_up2 (m : List (List B)) (i : Nat) : (up2 m).getD i [] = up (m.getD i []) := by
  have := rd_L1_up2 m i
  simpa [rd_L1] using this
theorem getD_mem {α : Type} {l : List (List α)} {i : Nat} (h : i < l.length) : l.getD i [] ∈ l := by
  rw [List.getD_eq_getElem?_getD, List.getElem?_eq_getElem h]
  exact List.getElem_mem h
theorem valid_len {α : Type} {l : List (List α)} (hv : validB l = true) {x : List α} (hx : x ∈ l) : x.length = colsN l := by
  unfold validB at hv
  simp only [Bool.and_eq_true, List.all_eq_true, decide_eq_true_eq] at hv
  exact hv.2.2 x hx
theorem applyUpto_getD (n : Nat) (m bs : List (List B)) (i : Nat) (x : List B) (hi : i < m.length) : ((applyUpto n m bs i).set i x).getD i [] = x := by
  rw [List.getD_eq_getElem?_getD, List.getElem?_set_self (by rw [applyUpto_length _ _ _ _ (by omega)]; exact hi)]
  rfl
set_option maxRecDepth 100000 in
set_option maxHeartbeats 4000000 in
theorem apply_main (A0 A1 : Option Addr) (c0 c1 : Nat) (l0 l1 : List (List Int)) (r1 : List (List Int)) (r2 : Int) (w : World) (hr0 : Kd.C (Kd.slice 5 (Kd.int .u8)) w A0 l0.length l0) (hc0 : l0.length ≤ c0) (hr1 : Kd.C (Kd.slice 5 (Kd.int .u8)) w A1 l1.length l1) (hc1 : l1.length ≤ c1)
    (hv : validB l0 = true) (hl : l1.length = colsN l0)
    (hres : (l1.any (fun x => !decide (x.length = colsN l1)) = true ∧ r1 = [] ∧ r2 = 1) ∨ (l1.any (fun x => !decide (x.length = colsN l1)) = false ∧ ∃ M Bs, l0 = up2 M ∧ l1 = up2 Bs ∧ r1 = up2 (applyM (colsN Bs) M Bs) ∧ r2 = 0 ∧ colsN Bs ≤ 140737488351232)) :
    Calls Try.prog 32 #[.slice A0 l0.length c0, .slice A1 l1.length c1] w fun e w' => ∃ v0_ : Value, e = .returned (.tuple #[v0_, .int .i64 r2]) ∧ Kd.S (Kd.slice 5 (Kd.int .u8)) 34 w' w.heap.size (fun _ => True) v0_ r1 ∧ Below w.heap.size w w' := by
  have hmf : ∀ (fn : Fn) (first cap : Array Value) (w : World), (Instr.makeFunc fn first cap).run Try.prog w = .ok (.func fn first cap) w := fun _ _ _ _ => rfl
  have HR0 := Aside0.mk hr0
  have HC0 := Aside0.mk hc0
  have HR1 := Aside0.mk hr1
  have HC1 := Aside0.mk hc1
  have hcl := colsN_le hr0
  have hcl1 := colsN_le hr1
  have hn := hr1.2.1
  have HV := Aside0.mk (show matrix_Valid.f l0 = some true by rw [matrix_Valid.f, hv])
  have hne : ((l1.length : Int) != (colsN l0 : Int)) = false := by rw [bne_eq_false_iff_eq]; omega
  have HF := Aside0.mk (columns_eq l0)
  have HRES := Aside0.mk hres
  have HVV := Aside0.mk hv
  have HLL := Aside0.mk hl
  clear hr0 hc0 hr1 hc1 hv hl hres
  go_enter Try.func32, Try.ntmps32
  go_upto_if 24 with (first | (go_at_call 17; (with_reducible refine (matrix_Valid.calls _ _ l0 _ _ HR0.out HC0.out HV.out).mono ?_); rintro e w1 ⟨rfl, hb⟩; have HB := Aside0.mk hb; clear hb) | (go_at_call 56; (with_reducible refine (matrix_columns.calls _ _ l0 _ _ (Kd.C_below HR0.out HB.out) HC0.out HF.out).mono ?_); rintro e w' ⟨rfl, ⟨n1, rfl⟩⟩) | ((with_reducible refine gate_dst (N := 6) rfl ?_); refine box_event rfl (N := 6) rfl (cs := #[.int .i64 0]) (t := 3) ?hrun ?_; (case hrun => first | (go_simp; done) | (go_simp; rfl)); intro g hg w2 hb2 hB2; have hx2 : w2.cell? ⟨g, 0, none⟩ = some (.int .i64 0) := (by rw [blk_cell hb2]; rfl); have hf2 := blk_frozen hb2 0; have HB2 := Aside0.mk (below_step (pw_below_drewN HB.out n1) hB2); have HG := Aside0.mk (show w.heap.size ≤ g by rw [hg]; exact HB.out.size); clear hg hb2 hB2))
  go_cut [4] (fun v4 wc => v4 = .slice none 0 0 ∧ wc.cell? ⟨g, 0, none⟩ = some (.int .i64 (colsN l1 : Int)) ∧ Aside0 (Below w.heap.size w wc))
  case first =>
    by_cases hpos : 0 < l1.length
    · have hq : colsN l1 = (rd_L1 l1 0).length := by
        unfold colsN rd_L1
        cases l1 with
        | nil => simp at hpos
        | cons x l => rfl
      rw [show (decide (0 < l1.length)) = true from decide_eq_true hpos]
      obtain ⟨ad, A2, c2, e, hx, hlx, hix⟩ := at_L1 HR1.out 0 (by omega) (by omega)
      subst e
      rw [show ((0 : Int)).toNat = 0 from rfl, Addr.add_zero'] at hx
      have hbx := World.block_lt_of_cell? w _ hx
      have hxg : ad.block ≠ g := by have := HG.out; omega
      have hx3 : (w2.setCell ⟨g, 0, none⟩ (.int .i64 0)).cell? ad = some (.slice A2 (rd_L1 l1 0).length c2) := ((HB2.out.setCell HG.out _).cell hbx).trans hx
      have HQ := Aside0.mk hq
      clear hq hx
      go_wp2
      go_meet
      exact ⟨rfl, by rw [HQ.out]; go_simp, ⟨(HB2.out.setCell HG.out _).setCell HG.out _⟩⟩
    · have hq : colsN l1 = 0 := by
        unfold colsN
        cases l1 with
        | nil => rfl
        | cons x l => simp at hpos
      have HQ := Aside0.mk hq
      clear hq
      rw [show (decide (0 < l1.length)) = false from decide_eq_false hpos]
      clear hpos
      go_wp2
      go_meet
      exact ⟨rfl, by rw [HQ.out]; go_simp, ⟨HB2.out.setCell HG.out _⟩⟩
  case rest =>
    obtain ⟨rfl, hcell, hBc⟩ := hcut
    have HCF := Aside0.mk (containsFunc_calls A1 c1 l1 65 ⟨g, 0, none⟩ (fun x => decide (x.length ≠ colsN l1)) wc (Kd.C_below HR1.out hBc.out) (tests65 _ hcl1 _ _ hcell))
    rcases HRES.out with ⟨hany, rfl, rfl⟩ | ⟨hany, M, Bs, rfl, rfl, rfl, rfl, hlim⟩
    · rw [show (l1.any fun x => decide (x.length ≠ colsN l1)) = true by simpa using hany] at HCF
      clear hany
      go_wp2_with (first | (go_at_call 58; (with_reducible refine HCF.out.mono ?_); rintro e w' ⟨rfl, rfl⟩))
      go_ret2
      exact ⟨_, rfl, Kd.S_nil _ _ _ _ _, hBc.out⟩
    · rw [show ((up2 Bs).any fun x => decide (x.length ≠ colsN (up2 Bs))) = false by simpa using hany] at HCF
      have hblen : ∀ b ∈ Bs, b.length = colsN Bs := by
        intro b hb
        have := List.any_eq_false.1 hany (up b) (List.mem_map_of_mem hb)
        simpa [up_length, colsN_up2] using this
      have HBL := Aside0.mk hblen
      have HZ := Aside0.mk (zero_eq (up2 M).length (colsN (up2 Bs)) (by have := HVV.out; unfold validB at this; simp at this; omega) (by rw [colsN_up2]; omega) (k := (up2 M).length + 1) (by omega))
      clear hany hblen
      go_wp2_with (first | (go_at_call 58; (with_reducible refine HCF.out.mono ?_); rintro e w' ⟨rfl, rfl⟩) | (go_at_call 64; (with_reducible refine (matrix_zero.calls _ _ _ _ _ HZ.out).mono ?_); rintro e w3 ⟨v3, rfl, hS3, hb3⟩; have HS3 := Aside0.mk (Kd.S_lower hS3 (below_size hBc.out)); have HB3 := Aside0.mk (below_step hBc.out hb3); clear hS3 hb3))
      obtain ⟨Av, cv, ev⟩ := Kd.S_slice HS3.out
      rw [List.length_replicate] at ev
      subst ev
      rw [zeros_up2, colsN_up2] at HS3
      generalize hN : colsN Bs = N at HS3 hlim
      have HN := Aside0.mk hN
      have HLIM := Aside0.mk hlim
      have hlenM : (up2 M).length ≤ 64 := by have := HVV.out; unfold validB at this; simp at this; omega
      clear hN hlim
      go_loopw [38] (fun v38 wr => ∃ (i : Nat), i ≤ (up2 M).length ∧ v38 = .int .i64 (i : Int) ∧ Aside0 (Kd.S D 34 wr w.heap.size (fun _ => True) (.slice Av (up2 M).length cv) (up2 (applyUpto N M Bs i)) ∧ Below w.heap.size w wr)) (fun v38 _ => (up2 M).length - (intOf v38).toNat)
      case atStart => exact ⟨0, by omega, rfl, ⟨by rw [applyUpto_zero, ← up2_length M]; exact HS3.out, HB3.out⟩⟩
      case round =>
        obtain ⟨i, hi, rfl, HA⟩ := hrel
        by_cases hlt : i < (up2 M).length
        · obtain ⟨ad0, A2, c2, e0, hx0, hl0, hi0⟩ := at_L1 HR0.out (i : Int) (by omega) (by omega)
          subst e0
          rw [Int.toNat_natCast] at hx0
          replace hx0 := (HA.out.2.cell (World.block_lt_of_cell? w _ hx0)).trans hx0
          rw [rd_L1_up2] at hx0 hl0 hi0
          have hrl := valid_len (by rw [← validB_up2]; exact HVV.out) (getD_mem (l := M) (i := i) (by rw [up2_length] at hlt; exact hlt))
          generalize hrow : M.getD i [] = r at hx0 hl0 hi0 hrl
          have HROW := Aside0.mk hrow
          have HC2 := Aside0.mk hi0
          have HRL := Aside0.mk hrl
          have hrl2 := hi0.2.1
          clear hrow hi0 hl0 hrl
          go_wp2
          obtain ⟨wo, rfl⟩ : ∃ wo : World, wo = wr := ⟨_, rfl⟩
          go_loopw [45] (fun v45 wr => ∃ (k : Nat), k ≤ (up r).length ∧ v45 = .int .i64 (k : Int) ∧ Aside0 (Kd.S D 34 wr w.heap.size (fun _ => True) (.slice Av (up2 M).length cv) (up2 ((applyUpto N M Bs i).set i (applyPart N r Bs k))) ∧ Below w.heap.size w wr)) (fun v45 _ => (up r).length - (intOf v45).toNat)
          case atStart => exact ⟨0, by omega, rfl, ⟨by rw [applyPart_zero, applyUpto_at _ _ _ _ (by rw [up2_length] at hlt; exact hlt)]; exact HA.out.1, HA.out.2⟩⟩
          case round =>
            obtain ⟨k, hk, rfl, HA2⟩ := hrel
            by_cases hlt2 : k < (up r).length
            · have hkb : k < (up2 Bs).length := by have := HLL.out; rw [colsN_up2] at this; rw [up_length] at hlt2; have := HRL.out; omega
              obtain ⟨ad1, A3, c3, e1, hx1, hl1, hi1⟩ := at_L1 HR1.out (k : Int) (by omega) (by omega)
              subst e1
              rw [Int.toNat_natCast] at hx1
              rw [rd_L1_up2] at hx1 hl1 hi1
              obtain ⟨adr, er, hxr⟩ := Kd.at_int HC2.out (k : Int) (by omega) (by omega)
              subst er
              rw [Int.toNat_natCast, getD_up] at hxr
              obtain ⟨gv, cap, evv, hg1, hg2, _⟩ := Kd.S_form HA2.out.1 (by rw [up2_length, List.length_set, applyUpto_length _ _ _ _ (by rw [up2_length] at hi; exact hi)]; rw [up2_length] at hlt; omega)
              injection evv with ea en ec
              clear en ec
              subst ea
              obtain ⟨_, ce, hcl3, hM3, hcc3, hfr3, _, _⟩ := Kd.S_elem HA2.out.1 [] (i : Int) (by omega) (by omega)
              obtain ⟨ve, rfl, ge⟩ := hM3
              have hxo := hcc3 0 _ rfl
              have hfo := hfr3 0
              rw [show (i : Int).toNat * (D).sz + 0 = i from by rw [Int.toNat_natCast]; show i * 1 + 0 = i; omega] at hxo hfo
              rw [Int.toNat_natCast, getD_up2, applyUpto_getD _ _ _ _ _ (by rw [up2_length] at hlt; exact hlt)] at ge
              obtain ⟨Ao, co, rfl⟩ := Kd.R_slice ge
              obtain ⟨_, hoc, hoR⟩ := Kd.R_reads' ge
              clear hcc3 hfr3 hcl3 ge
              have hf := Aside0.mk (muladd_up (applyPart N r Bs k) (Bs.getD k []) (r.getD k 0) (by rw [applyPart_length N r Bs (by rw [← HN.out]; exact HBL.out) k, HBL.out _ (getD_mem (by rw [up2_length] at hkb; exact hkb)), HN.out]) (by rw [applyPart_length N r Bs (by rw [← HN.out]; exact HBL.out) k]; exact HLIM.out) (k := N + 1) (by rw [applyPart_length N r Bs (by rw [← HN.out]; exact HBL.out) k]; omega))
              replace hx1 := (HA2.out.2.cell (World.block_lt_of_cell? w _ hx1)).trans hx1
              replace hxr := (HA2.out.2.cell (World.block_lt_of_cell? w _ hxr)).trans hxr
              have HI1 := Aside0.mk (Kd.C_below hi1 HA2.out.2)
              have HL1 := Aside0.mk hl1
              have HOR := Aside0.mk hoR
              have HOC := Aside0.mk hoc
              have hb0 := World.block_lt_of_cell? wr _ hx1
              have i0 : (0 : Int) ≤ (i : Int) := by omega
              have i1 : (i : Int) < ((up2 M).length : Int) := by omega
              have k0 : (0 : Int) ≤ (k : Int) := by omega
              have k1 : (k : Int) < ((up2 Bs).length : Int) := by omega
              clear hi1 hl1 hoR hoc hx0
              generalize hpk : applyPart N r Bs k = pk at hxo hf HOR HOC
              generalize hbk : Bs.getD k [] = bk at hx1 hf HI1 HL1
              generalize hrk : r.getD k 0 = rk at hxr hf
              have HPK := Aside0.mk hpk
              have HBK := Aside0.mk hbk
              have HRK := Aside0.mk hrk
              clear hpk hbk hrk
              go_wp2
              go_region_with
                (first | (go_at_call 66; refine (gf256_MulAdd.calls (N + 1) _ _ (up pk) _ _ (up bk) _ _ _ _ (by exact Kd.C_drew HOR.out) HOC.out (by exact Kd.C_drew HI1.out) HL1.out hf.out).mono ?_; rintro e w4 ⟨v4, rfl, hv4, hb4⟩; have hx4 : w4.cell? ⟨gv, i, none⟩ = some (.slice Ao (up pk).length co) := (hb4.cell hg2).trans hxo; have hf4 : w4.frozen? ⟨gv, i, none⟩ = false := (hb4.frozen hg2).trans hfo; have hx5 : w4.cell? (ad1.add k) = some (.slice A3 (up bk).length c3) := (hb4.cell hb0).trans hx1; have HV4 := Aside0.mk hv4; have HB4 := Aside0.mk hb4; obtain ⟨A4, c4, rfl⟩ := Kd.R_slice HV4.out; clear hv4 hb4))
              all_goals
                have hBw := (HA2.out.2.drew).size
                have hP := S_put_fresh (Kd.S_drew HA2.out.1) HB4.out HV4.out hBw hg2 (i : Int) (by omega) (by omega)
                have hE : applyPart N r Bs (k + 1) = addS pk bk rk := by rw [← HPK.out, ← HBK.out, ← HRK.out]; exact applyPart_succ N r Bs k (by rw [up_length] at hlt2; exact hlt2) (by rw [up2_length] at hkb; exact hkb)
                rw [Int.toNat_natCast, set_up2, List.set_set] at hP
                have HP := Aside0.mk hP
                have HE := Aside0.mk hE
                clear hE
                have HBN := Aside0.mk ((below_step (HA2.out.2.drew) HB4.out).setCell (p := ⟨gv, i, none⟩) hg1 (.slice A4 (up (addS pk bk rk)).length c4))
                clear hP hBw
                go_wp2
                go_roundw
                case rel => exact ⟨k + 1, by omega, by go_num, ⟨by rw [HE.out]; exact HP.out, HBN.out⟩⟩
                case measure => simp [intOf]; omega
            · obtain rfl : k = (up r).length := by omega
              have hU := HA2.out.1
              rw [applyPart_all N r Bs _ (by rw [up_length]; omega), ← HROW.out, applyUpto_succ _ _ _ _ (by rw [up2_length] at hlt; exact hlt)] at hU
              have HU := Aside0.mk hU
              clear hU
              go_wp2
              go_roundw
              case rel => exact ⟨i + 1, by omega, by go_num, ⟨HU.out, HA2.out.2⟩⟩
              case measure => simp [intOf]; omega
        · obtain rfl : i = (up2 M).length := by omega
          have hU := HA.out.1
          rw [up2_length M, applyUpto_all, ← up2_length M] at hU
          have HU := Aside0.mk hU
          clear hU
          go_wp2
          go_ret2
          exact ⟨_, rfl, by rw [HN.out]; exact HU.out, HA.out.2⟩
/-- matrix.Apply, of bytes, blocks not too long. -/
def matrix_Apply.f (l0 : List (List Int)) (l1 : List (List Int)) : Option ((List (List Int)) × Int) :=
  if validB l0 && decide (l1.length = colsN l0) then
    if l1.any (fun x => !decide (x.length = colsN l1)) then some ([], 1)
    else if l0.all (fun x => x.all isB) && (l1.all (fun x => x.all isB) && decide (colsN l1 ≤ 140737488351232)) then some (up2 (applyM (colsN (toB2 l1)) (toB2 l0) (toB2 l1)), 0) else none
  else if l1.length ≤ 9223372036854775807 then some ([], 1) else none
theorem matrix_Apply.calls (A0 : Option Addr) (c0 : Nat) (l0 : List (List Int)) (A1 : Option Addr) (c1 : Nat) (l1 : List (List Int)) (r1 : List (List Int)) (r2 : Int) (w : World) (hr0 : Kd.C (Kd.slice 5 (Kd.int .u8)) w A0 l0.length l0) (hc0 : l0.length ≤ c0) (hr1 : Kd.C (Kd.slice 5 (Kd.int .u8)) w A1 l1.length l1) (hc1 : l1.length ≤ c1) (h : matrix_Apply.f l0 l1 = some (r1, r2)) :
    Calls Try.prog 32 #[.slice A0 l0.length c0, .slice A1 l1.length c1] w fun e w' => ∃ v0_ : Value, e = .returned (.tuple #[v0_, .int .i64 r2]) ∧ Kd.S (Kd.slice 5 (Kd.int .u8)) 34 w' w.heap.size (fun _ => True) v0_ r1 ∧ Below w.heap.size w w' := by
  unfold matrix_Apply.f at h
  split at h
  · rename_i hc
    simp only [Bool.and_eq_true, decide_eq_true_eq] at hc
    refine apply_main A0 A1 c0 c1 l0 l1 r1 r2 w hr0 hc0 hr1 hc1 hc.1 hc.2 ?_
    split at h
    · rename_i ha
      injection h with h
      injection h with h1 h2
      exact .inl ⟨ha, h1.symm, h2.symm⟩
    · rename_i ha
      split at h
      · rename_i hb
        simp only [Bool.and_eq_true, decide_eq_true_eq, List.all_eq_true] at hb
        injection h with h
        injection h with h1 h2
        obtain ⟨M, rfl⟩ := exists_up2 hb.1
        obtain ⟨Bs, rfl⟩ := exists_up2 hb.2.1
        rw [toB2_up2, toB2_up2] at h1
        have hlim := hb.2.2
        rw [colsN_up2] at hlim
        exact .inr ⟨by simpa using ha, M, Bs, rfl, rfl, h1.symm, h2.symm, hlim⟩
      · cases h
  · rename_i hc
    split at h
    · rename_i hn
      injection h with h
      injection h with h1 h2
      subst h1 h2
      refine (apply_bad1 A0 A1 c0 c1 l0 l1 w hr0 hc0 ?_ hn).mono ?_
      · simp only [Bool.and_eq_true, decide_eq_true_eq] at hc
        by_cases hv : validB l0 = true
        · exact .inr fun e => hc ⟨hv, e⟩
        · exact .inl (by simpa using hv)
      · rintro e w' ⟨rfl, hb⟩
        exact ⟨_, rfl, Kd.S_nil _ _ _ _ _, hb⟩
    · cases h
end Go.Proofs.Ytpkghpljgjlmjaa.K
/- Reduce and Rank of package matrix: walks. -/
namespace Go.Proofs.Ytpkghpljgjlmjaa.K
open Go.RowKit Go.Proofs.YtpkghpljgjlmjaaW.PrintWords Go.Proofs.YtpkghpljgjlmjaaW.PrintLast Go.Proofs.YtpkghpljgjlmjaaW.PrintMore Kin
set_option linter.unusedVariables false
set_option linter.unusedSimpArgs false
def bytes2 (l : List (List Int)) : Bool := l.all (fun x => x.all isB)
theorem exists_bytes2 {l : List (List Int)} (h : bytes2 l = true) : ∃ M : List (List B), l = up2 M := by
  simp only [bytes2, List.all_eq_true] at h
  exact exists_up2 h
def matrix_Reduce.f (l0 : List (List Int)) : Option ((List (List Int)) × List Int × Int) :=
  if validB l0 = true then (if bytes2 l0 = true then some (up2 (elimRun (toB2 l0) (colsN l0)).1, natInts (elimRun (toB2 l0) (colsN l0)).2.1, 0) else none) else some ([], [], 1)
theorem colsN_of_nil {α : Type} {M : List (List α)} (h : M = []) : colsN M = 0 := by subst h; rfl
theorem validB_lim {α : Type} {M : List (List α)} (h : validB M = true) : M.length ≤ 64 ∧ colsN M ≤ 64 ∧ ∀ r ∈ M, r.length = colsN M := by
  simp only [validB, Bool.and_eq_true, decide_eq_true_eq, List.all_eq_true] at h
  exact ⟨h.1, h.2.1, h.2.2⟩
set_option maxRecDepth 100000 in
set_option maxHeartbeats 2000000 in
theorem reduce_good (A0 : Option Addr) (c0 : Nat) (M : List (List B)) (w : World) (hr0 : Kd.C (Kd.slice 5 (Kd.int .u8)) w A0 (up2 M).length (up2 M)) (hc0 : (up2 M).length ≤ c0) (hv : validB M = true) :
    Calls Try.prog 27 #[.slice A0 (up2 M).length c0] w fun e w' => ∃ v0_ v1_ : Value, e = .returned (.tuple #[v0_, v1_, .int .i64 0]) ∧ Kd.S (Kd.slice 5 (Kd.int .u8)) 34 w' w.heap.size (fun _ => True) v0_ (up2 (elimRun M (colsN M)).1) ∧ Kd.R (Kd.int .i64) 3 w' w.heap.size (fun _ => True) v1_ (natInts (elimRun M (colsN M)).2.1) ∧ Below w.heap.size w w' := by
  have HR0 := Aside0.mk hr0
  have HC0 := Aside0.mk hc0
  have HV := Aside0.mk (show matrix_Valid.f (up2 M) = some true by rw [matrix_Valid.f, validB_up2, hv])
  have HF := Aside0.mk (show matrix_columns.f (up2 M) = some (colsN M : Int) by rw [columns_eq, colsN_up2])
  obtain ⟨l1, l2, l3⟩ := validB_lim hv
  have HM := Aside0.mk l3
  have HL1 := Aside0.mk (show colsN M ≤ 1000 by omega)
  have HL2 := Aside0.mk l1
  have HL3 := Aside0.mk (fun h : M = [] => colsN_of_nil h)
  clear hr0 hc0 hv l1 l2 l3
  go_enter Try.func27, Try.ntmps27
  go_wp2_with (first | (go_at_call 17; (with_reducible refine (matrix_Valid.calls _ _ (up2 M) _ _ HR0.out HC0.out HV.out).mono ?_); rintro e w1 ⟨rfl, hb⟩; have HB := Aside0.mk hb; clear hb) | (go_at_call 56; (with_reducible refine (matrix_columns.calls _ _ (up2 M) _ _ (Kd.C_below HR0.out HB.out) HC0.out HF.out).mono ?_); rintro e w2 ⟨rfl, ⟨n1, rfl⟩⟩; have HB2 := Aside0.mk (pw_below_drewN HB.out n1)) | (go_at_call 62; (with_reducible refine (eliminate_calls _ _ M (colsN M) (colsN M) _ (Kd.C_below HR0.out HB2.out) HC0.out HM.out (Nat.le_refl _) HL1.out HL2.out HL3.out).mono ?_); rintro e w3 ⟨gx, rfl, hE, hB3⟩; obtain ⟨vr, vp, hg, hS, hP⟩ := hE.out; obtain ⟨A4, c4, rfl⟩ := Kd.S_slice hS; obtain ⟨A5, c5, rfl⟩ := Kd.R_slice hP; rw [show (natInts (elimRun M (colsN M)).2.1).length = (elimRun M (colsN M)).2.1.length from List.length_map _] at hg hP; have hx0 : w3.cell? ⟨gx, 0, none⟩ = some (.slice A4 (up2 (elimRun M (colsN M)).1).length c4) := (by rw [blk_cell hg]; rfl); have hx1 : w3.cell? ⟨gx, 1, none⟩ = some (.slice A5 (elimRun M (colsN M)).2.1.length c5) := (by rw [blk_cell hg]; rfl); have hx2 : w3.cell? ⟨gx, 2, none⟩ = some (.int .u8 (b2i (elimRun M (colsN M)).2.2)) := (by rw [blk_cell hg]; rfl); have HS := Aside0.mk hS; have HP := Aside0.mk hP; have HB3 := Aside0.mk hB3; clear hE hg hS hP hB3))
  go_quiet (fail)
  go_wp2
  have hs : w.heap.size ≤ (w1.drewN n1).heap.size := HB2.out.size
  go_ret3
  exact ⟨_, _, rfl, Kd.S_lower (Kd.S_drewN HS.out _) hs, Kd.R_lower (Kd.R_below HP.out (pw_below_drewN (Below.refl _ _) _)) hs, HB2.out.trans ((pw_below_drewN HB3.out _).mono hs)⟩
set_option maxRecDepth 100000 in
set_option maxHeartbeats 2000000 in
theorem reduce_bad (A0 : Option Addr) (c0 : Nat) (M : List (List Int)) (w : World) (hr0 : Kd.C (Kd.slice 5 (Kd.int .u8)) w A0 M.length M) (hc0 : M.length ≤ c0) (hv : validB M = false) :
    Calls Try.prog 27 #[.slice A0 M.length c0] w fun e w' => e = .returned (.tuple #[.slice none 0 0, .slice none 0 0, .int .i64 1]) ∧ Below w.heap.size w w' := by
  have HR0 := Aside0.mk hr0
  have HC0 := Aside0.mk hc0
  have HV := Aside0.mk (show matrix_Valid.f M = some false by rw [matrix_Valid.f, hv])
  clear hr0 hc0 hv
  go_enter Try.func27, Try.ntmps27
  go_wp2_with (first | (go_at_call 17; (with_reducible refine (matrix_Valid.calls _ _ M _ _ HR0.out HC0.out HV.out).mono ?_); rintro e w1 ⟨rfl, hb⟩; have HB := Aside0.mk hb; clear hb))
  go_ret3
  exact ⟨rfl, HB.out⟩
theorem matrix_Reduce.calls (A0 : Option Addr) (c0 : Nat) (l0 : List (List Int)) (r1 : List (List Int)) (r2 : List Int) (r3 : Int) (w : World) (hr0 : Kd.C (Kd.slice 5 (Kd.int .u8)) w A0 l0.length l0) (hc0 : l0.length ≤ c0) (h : matrix_Reduce.f l0 = some (r1, r2, r3)) :
    Calls Try.prog 27 #[.slice A0 l0.length c0] w fun e w' => ∃ v0_ v1_ : Value, e = .returned (.tuple #[v0_, v1_, .int .i64 r3]) ∧ Kd.S (Kd.slice 5 (Kd.int .u8)) 34 w' w.heap.size (fun _ => True) v0_ r1 ∧ Kd.R (Kd.int .i64) 3 w' w.heap.size (fun _ => True) v1_ r2 ∧ Below w.heap.size w w' := by
  cases hv : validB l0 with
  | true =>
    unfold matrix_Reduce.f at h
    rw [if_pos hv] at h
    split at h
    · rename_i hb
      obtain ⟨M, rfl⟩ := exists_bytes2 hb
      rw [toB2_up2, colsN_up2] at h
      simp only [Option.some.injEq, Prod.mk.injEq] at h
      obtain ⟨rfl, rfl, rfl⟩ := h
      exact reduce_good A0 c0 M w hr0 hc0 (by rw [← validB_up2]; exact hv)
    · cases h
  | false =>
    unfold matrix_Reduce.f at h
    rw [if_neg (by rw [hv]; simp)] at h
    simp only [Option.some.injEq, Prod.mk.injEq] at h
    obtain ⟨rfl, rfl, rfl⟩ := h
    refine (reduce_bad A0 c0 l0 w hr0 hc0 hv).mono ?_
    rintro e w' ⟨rfl, hb⟩
    exact ⟨_, _, rfl, Kd.S_nil _ _ _ _ _, Kd.R_nil _ _ _ _ _, hb⟩
end Go.Proofs.Ytpkghpljgjlmjaa.K
-- Lines of this claim, written by the session's own program kprint.py (it runs print.py).
namespace Go.Proofs.Ytpkghpljgjlmjaa.K
open Go.RowKit Go.Proofs.YtpkghpljgjlmjaaW.PrintWords Go.Proofs.YtpkghpljgjlmjaaW.PrintLast Go.Proofs.YtpkghpljgjlmjaaW.PrintMore
attribute [local go_sem] max2_int min2_int max_two min_two max_three min_three max_four min_four   -- for this text's walks alone
set_option linter.unusedVariables false
set_option linter.unusedSimpArgs false

/-! ### matrix_Kernel: function 19 -/
mutual
def matrix_Kernel.l0 : Nat → List (List Int) → List (List Int) → List Int → List (List Int) → Int → Int → Option ((List (List Int)) × Int)
  | 0, _, _, _, _, _, _ => none
  | k + 1, x0, x4, x5, x7, x22, x23 => if x23 < x22 then ((slices_Contains_int_int.f k x5 x23).bind fun t109 => (if t109 = true then (matrix_Kernel.l0 k x0 x4 x5 x7 x22 (wrap64 (x23 + 1))) else ((matrix_columns.f x0).bind fun t110 => (if 0 ≤ t110 then (if (t110 : Int).toNat ≤ 281474976710656 then ((some (List.replicate (t110 : Int).toNat 0 : List Int)).bind fun y111 => (if 0 ≤ x23 then (if x23 < (y111.length : Int) then (matrix_Kernel.l1 k x0 x4 x5 x7 x23 (y111.set (x23 : Int).toNat 1) x22 x23 x5 (x5.length : Int) 0) else (none)) else (none))) else (none)) else (none))))) else (some (x7, 0))
def matrix_Kernel.l1 : Nat → List (List Int) → List (List Int) → List Int → List (List Int) → Int → List Int → Int → Int → List Int → Int → Int → Option ((List (List Int)) × Int)
  | 0, _, _, _, _, _, _, _, _, _, _, _ => none
  | k + 1, x0, x4, x5, x7, x8, x9, x22, x23, x35, x36, x37 => if x37 < x36 then (if 0 ≤ x37 then (if x37 < (x35.length : Int) then (if x37 < (x4.length : Int) then (if 0 ≤ x8 then (if x8 < ((rd_L1 x4 x37).length : Int) then (if 0 ≤ (rd x35 x37) then (if (rd x35 x37) < (x9.length : Int) then (matrix_Kernel.l1 k x0 x4 x5 x7 x8 (x9.set ((rd x35 x37) : Int).toNat (rd (rd_L1 x4 x37) x8)) x22 x23 x35 x36 (wrap64 (x37 + 1))) else (none)) else (none)) else (none)) else (none)) else (none)) else (none)) else (none)) else (if x7.length < 5864062014805 then (matrix_Kernel.l0 k x0 x4 x5 (x7 ++ [x9]) x22 (wrap64 (x23 + 1))) else (none))
end
def matrix_Kernel.f (k : Nat) (l0 : List (List Int)) : Option ((List (List Int)) × Int) := (matrix_Reduce.f l0).bind fun bt101 => (if bt101.2.2 = 0 then ((matrix_columns.f l0).bind fun t108 => (matrix_Kernel.l0 k l0 bt101.1 bt101.2.1 ([] : List (List Int)) t108 0)) else (some (([] : List (List Int)), bt101.2.2)))
set_option maxHeartbeats 8000000 in
set_option maxRecDepth 100000 in
theorem matrix_Kernel.calls (k : Nat) (A0 : Option Addr) (c0 : Nat) (l0 : List (List Int)) (r1 : List (List Int)) (r2 : Int) (w : World) (hr0 : Kd.C (Kd.slice 5 (Kd.int .u8)) w A0 l0.length l0) (hc0 : l0.length ≤ c0) (h : matrix_Kernel.f k l0 = some (r1, r2)) :
    Calls Try.prog 19 #[.slice A0 l0.length c0] w fun e w' => ∃ v0_ : Value, e = .returned (.tuple #[v0_, .int .i64 r2]) ∧ Kd.S (Kd.slice 5 (Kd.int .u8)) 34 w' w.heap.size (fun _ => True) v0_ r1 ∧ Below w.heap.size w w' := by
  have HR0 := Aside0.mk hr0
  have HC0 := Aside0.mk hc0
  clear hr0 hc0
  have HB := Aside0.mk (Below.refl w.heap.size w)
  have H : ((matrix_Reduce.f l0).bind fun bt101 => (if bt101.2.2 = 0 then ((matrix_columns.f l0).bind fun t108 => (matrix_Kernel.l0 k l0 bt101.1 bt101.2.1 ([] : List (List Int)) t108 0)) else (some (([] : List (List Int)), bt101.2.2)))) = some (r1, r2) := h
  clear h
  replace H := Option.bind_eq_some_iff.mp H
  obtain ⟨⟨t101, t102, t103⟩, A20, H⟩ := H
  replace H : (if t103 = 0 then ((matrix_columns.f l0).bind fun t108 => (matrix_Kernel.l0 k l0 t101 t102 ([] : List (List Int)) t108 0)) else (some (([] : List (List Int)), t103))) = some (r1, r2) := H
  have A2 := Aside0.mk A20
  clear A20
  by_cases c3 : t103 = 0
  · rw [if_pos c3] at H
    have c3b0 : (t103 == 0) = true := beq_iff_eq.mpr c3
    have c3b1 : (t103 != 0) = false := bne_eq_false_iff_eq.mpr c3
    clear c3
    replace H := Option.bind_eq_some_iff.mp H
    obtain ⟨t108, A40, H⟩ := H
    replace H : (matrix_Kernel.l0 k l0 t101 t102 ([] : List (List Int)) t108 0) = some (r1, r2) := H
    have A4 := Aside0.mk A40
    clear A40
    have H' := Aside0.mk H
    clear H
    go_enter Try.func19, Try.ntmps19
    go_wp2_with (first | ((with_reducible refine gate_callee (f := 27) rfl ?_); refine goesL_ (some 14) rfl rfl Try.func27 (by kernel_rfl) rfl #[.slice A0 l0.length c0] rfl (by (try simp only [List.map_toArray, List.map_cons, List.map_nil]); first | done | rfl | (simp only [List.length_drop, List.length_take]; rfl)) ?_; (with_reducible refine (matrix_Reduce.calls _ _ l0 t101 t102 t103 _ ?side1 ?side2 A2.out).mono ?_); (case side1 => repeat (first | exact HR0.out | (with_reducible refine Kd.C_alloc ?_ _) | (with_reducible refine Kd.C_drewN ?_ _) | (with_reducible refine Kd.C_drew ?_))); (case side2 => exact HC0.out); rintro e w5 ⟨v104, v106, rfl, ho0, ho1, hb⟩; refine ⟨_, rfl, ?_⟩; have n0_ := Aside0.mk (Kd.S_lower ho0 (below_size (by repeat (first | (with_reducible first | exact HB.out | apply below_alloc | apply pw_below_drewN | apply below_drew1) | exact HB.out)))); have n1_ := Aside0.mk (Kd.R_lower ho1 (below_size (by repeat (first | (with_reducible first | exact HB.out | apply below_alloc | apply pw_below_drewN | apply below_drew1) | exact HB.out)))); have n2_ := Aside0.mk (below_step (by repeat (first | (with_reducible first | exact HB.out | apply below_alloc | apply pw_below_drewN | apply below_drew1) | exact HB.out)) hb); clear HB; have HO105 := n0_; have HO107 := n1_; have HB := n2_; clear n0_ n1_ n2_; (try clear hb); (try clear hb2); (try clear hk); (try clear hi); (try clear ho0); (try clear ho1)) | ((with_reducible refine gate_callee (f := 56) rfl ?_); refine goesL_ (some 22) rfl rfl Try.func56 (by kernel_rfl) rfl #[.slice A0 l0.length c0] rfl (by (try simp only [List.map_toArray, List.map_cons, List.map_nil]); first | done | rfl | (simp only [List.length_drop, List.length_take]; rfl)) ?_; (with_reducible refine (matrix_columns.calls _ _ l0 t108 _ ?side1 ?side2 A4.out).mono ?_); (case side1 => repeat (first | exact (Kd.C_below HR0.out HB.out) | (with_reducible refine Kd.C_alloc ?_ _) | (with_reducible refine Kd.C_drewN ?_ _) | (with_reducible refine Kd.C_drew ?_))); (case side2 => exact HC0.out); rintro e w' ⟨rfl, ⟨nd, rfl⟩⟩; refine ⟨_, rfl, ?_⟩))
    go_loopg [7, 23] k (fun kq v7 v23 w' => ∃ (x7_1 : List (List Int)) (x23_1 : Int), v23 = .int .i64 x23_1 ∧ Aside0 (matrix_Kernel.l0 kq l0 t101 t102 x7_1 t108 x23_1 = some (r1, r2)) ∧ Aside0 (kq ≤ k) ∧ Aside0 (Kd.S (Kd.slice 5 (Kd.int .u8)) 34 w' w.heap.size (fun k_ => some k_ ≠ (v7 : Value).ownBlock) v104 t101) ∧ Aside0 (Kd.R (Kd.int .i64) 3 w' w.heap.size (fun _ => True) v106 t102) ∧ Aside0 (Kd.S (Kd.slice 5 (Kd.int .u8)) 34 w' w.heap.size (fun k_ => some k_ ≠ (v104 : Value).ownBlock) v7 x7_1) ∧ Aside0 (Below w.heap.size w w'))
    case atStart => exact ⟨(([] : List (List Int))), (0), (by first | rfl | (simp; done) | (simp [*]; done)), H', ⟨Nat.le_refl _⟩, ⟨by (with_reducible repeat (first | apply Kd.S_alloc | apply Kd.S_drewN | apply Kd.S_drew)); exact Kd.S_mono HO105.out (fun _ hk => (by simp [Value.ownBlock]))⟩, ⟨by (with_reducible repeat (first | apply Kd.R_alloc | apply Kd.R_drewN | apply Kd.R_drew)); exact HO107.out⟩, ⟨by first | exact Kd.S_nil _ _ _ _ _ | exact Kd.N_nil _ _ _ _ _ | exact Kd.V_nil _ _ _ _ _ | exact Kd.Q_nil _ _ _ _ _ | exact Kd.R_nil _ _ _ _ _⟩, ⟨by repeat (first | (with_reducible first | exact HB.out | apply below_alloc | apply pw_below_drewN | apply below_drew1) | exact HB.out)⟩⟩
    case round =>
      clear H'
      try clear c1
      try clear c2
      try clear p2
      try clear c3
      try clear c3b0
      try clear c3b1
      try clear c5
      obtain ⟨x7_1, x23_1, rfl, HA, HK1, HO_4, HO_5, HO_7, HB⟩ := hrel
      cases gk with
      | zero => exact absurd HA.out (by simp [matrix_Kernel.l0])
      | succ k1 =>
        have H := HA.out
        clear HA
        simp only [matrix_Kernel.l0] at H
        by_cases c6 : x23_1 < t108
        · rw [if_pos c6] at H
          have c6b0 : decide (x23_1 < t108) = true := decide_eq_true c6
          clear c6
          replace H := Option.bind_eq_some_iff.mp H
          obtain ⟨t109, A70, H⟩ := H
          replace H : (if t109 = true then (matrix_Kernel.l0 k1 l0 t101 t102 x7_1 t108 (wrap64 (x23_1 + 1))) else ((matrix_columns.f l0).bind fun t110 => (if 0 ≤ t110 then (if (t110 : Int).toNat ≤ 281474976710656 then ((some (List.replicate (t110 : Int).toNat 0 : List Int)).bind fun y111 => (if 0 ≤ x23_1 then (if x23_1 < (y111.length : Int) then (matrix_Kernel.l1 k1 l0 t101 t102 x7_1 x23_1 (y111.set (x23_1 : Int).toNat 1) t108 x23_1 t102 (t102.length : Int) 0) else (none)) else (none))) else (none)) else (none)))) = some (r1, r2) := H
          have A7 := Aside0.mk A70
          clear A70
          by_cases c8 : t109 = true
          · subst c8
            have H1 : (matrix_Kernel.l0 k1 l0 t101 t102 x7_1 t108 (wrap64 (x23_1 + 1))) = some (r1, r2) := by rw [if_pos rfl] at H; exact H
            clear H
            have H := H1
            clear H1
            have H' := Aside0.mk H
            clear H
            obtain ⟨Ao9, co9, eo9⟩ := Kd.R_slice HO_5.out
            subst eo9
            go_wp2_with (first | ((with_reducible refine gate_callee (f := 60) rfl ?_); refine goesL_ (some 28) rfl rfl Try.func60 (by kernel_rfl) rfl #[.slice Ao9 t102.length co9, .int .i64 x23_1] rfl (by (try simp only [List.map_toArray, List.map_cons, List.map_nil]); first | done | rfl | (simp only [List.length_drop, List.length_take]; rfl)) ?_; (with_reducible refine (slices_Contains_int_int.calls k1 _ _ t102 x23_1 true _ ?side1 ?side2 A7.out).mono ?_); (case side1 => repeat (first | exact (Kd.R_reads' HO_5.out).2.2 | (with_reducible refine Kd.C_alloc ?_ _) | (with_reducible refine Kd.C_drewN ?_ _) | (with_reducible refine Kd.C_drew ?_))); (case side2 => exact (Kd.R_reads' HO_5.out).2.1); rintro e w' ⟨rfl, ⟨nd, rfl⟩⟩; refine ⟨_, rfl, ?_⟩))
            go_roundg k1
            case measure => have := HK1.out; omega
            case rel => exact ⟨(x7_1), (wrap64 (x23_1 + 1)), (by first | rfl | (simp; done) | (simp [*]; done)), H', ⟨by have := HK1.out; omega⟩, ⟨by (with_reducible repeat (first | apply Kd.S_alloc | apply Kd.S_drewN | apply Kd.S_drew)); exact HO_4.out⟩, ⟨by (with_reducible repeat (first | apply Kd.R_alloc | apply Kd.R_drewN | apply Kd.R_drew)); exact HO_5.out⟩, ⟨by (with_reducible repeat (first | apply Kd.S_alloc | apply Kd.S_drewN | apply Kd.S_drew)); exact HO_7.out⟩, ⟨by repeat (first | (with_reducible first | exact HB.out | apply below_alloc | apply pw_below_drewN | apply below_drew1) | exact HB.out)⟩⟩
          · replace c8 := Bool.eq_false_iff.mpr c8
            subst c8
            have H1 : ((matrix_columns.f l0).bind fun t110 => (if 0 ≤ t110 then (if (t110 : Int).toNat ≤ 281474976710656 then ((some (List.replicate (t110 : Int).toNat 0 : List Int)).bind fun y111 => (if 0 ≤ x23_1 then (if x23_1 < (y111.length : Int) then (matrix_Kernel.l1 k1 l0 t101 t102 x7_1 x23_1 (y111.set (x23_1 : Int).toNat 1) t108 x23_1 t102 (t102.length : Int) 0) else (none)) else (none))) else (none)) else (none))) = some (r1, r2) := by rw [if_neg (show ¬ (false = true) by decide)] at H; exact H
            clear H
            have H := H1
            clear H1
            replace H := Option.bind_eq_some_iff.mp H
            obtain ⟨t110, A100, H⟩ := H
            replace H : (if 0 ≤ t110 then (if (t110 : Int).toNat ≤ 281474976710656 then ((some (List.replicate (t110 : Int).toNat 0 : List Int)).bind fun y111 => (if 0 ≤ x23_1 then (if x23_1 < (y111.length : Int) then (matrix_Kernel.l1 k1 l0 t101 t102 x7_1 x23_1 (y111.set (x23_1 : Int).toNat 1) t108 x23_1 t102 (t102.length : Int) 0) else (none)) else (none))) else (none)) else (none)) = some (r1, r2) := H
            have A10 := Aside0.mk A100
            clear A100
            by_cases c11 : 0 ≤ t110
            · rw [if_pos c11] at H
              have c11b0 := eq_true c11
              have c11b1 : decide (0 ≤ t110) = true := decide_eq_true c11
              clear c11
              by_cases c12 : (t110 : Int).toNat ≤ 281474976710656
              · rw [if_pos c12] at H
                have c12b0 := eq_true c12
                have c12b1 : decide ((t110 : Int).toNat ≤ 281474976710656) = true := decide_eq_true c12
                clear c12
                obtain ⟨y111, hy111⟩ : ∃ y_ : List Int, y_ = (List.replicate (t110 : Int).toNat 0) := ⟨_, rfl⟩
                replace H : (if 0 ≤ x23_1 then (if x23_1 < (y111.length : Int) then (matrix_Kernel.l1 k1 l0 t101 t102 x7_1 x23_1 (y111.set (x23_1 : Int).toNat 1) t108 x23_1 t102 (t102.length : Int) 0) else (none)) else (none)) = some (r1, r2) := by first | (rw [hy111]; with_reducible exact H) | (have H2_ := (Option.bind_some _ _).symm.trans H; rw [hy111]; with_reducible exact H2_) | (have H2_ := (Option.bind_some _ _).symm.trans H; with_reducible exact H2_) | with_reducible exact H | (rw [hy111]; exact H) | exact H
                have Ny111 := Aside0.mk hy111
                clear hy111
                by_cases c13 : 0 ≤ x23_1
                · rw [if_pos c13] at H
                  have c13b0 : decide (0 ≤ x23_1) = true := decide_eq_true c13
                  clear c13
                  by_cases c14 : x23_1 < (y111.length : Int)
                  · rw [if_pos c14] at H
                    have c14b0 : decide (x23_1 < (y111.length : Int)) = true := decide_eq_true c14
                    clear c14
                    obtain ⟨y114, hy114⟩ : ∃ y_ : List Int, y_ = (y111.set (x23_1 : Int).toNat 1) := ⟨_, rfl⟩
                    replace H : (matrix_Kernel.l1 k1 l0 t101 t102 x7_1 x23_1 y114 t108 x23_1 t102 (t102.length : Int) 0) = some (r1, r2) := by first | (rw [hy114]; with_reducible exact H) | (have H2_ := (Option.bind_some _ _).symm.trans H; rw [hy114]; with_reducible exact H2_) | (have H2_ := (Option.bind_some _ _).symm.trans H; with_reducible exact H2_) | with_reducible exact H | (rw [hy114]; exact H) | exact H
                    have Ny114 := Aside0.mk hy114
                    clear hy114
                    have H' := Aside0.mk H
                    clear H
                    obtain ⟨Ao16, co16, eo16⟩ := Kd.R_slice HO_5.out
                    subst eo16
                    go_wp2_with (first | ((with_reducible refine gate_callee (f := 60) rfl ?_); refine goesL_ (some 28) rfl rfl Try.func60 (by kernel_rfl) rfl #[.slice Ao16 t102.length co16, .int .i64 x23_1] rfl (by (try simp only [List.map_toArray, List.map_cons, List.map_nil]); first | done | rfl | (simp only [List.length_drop, List.length_take]; rfl)) ?_; (with_reducible refine (slices_Contains_int_int.calls k1 _ _ t102 x23_1 false _ ?side1 ?side2 A7.out).mono ?_); (case side1 => repeat (first | exact (Kd.R_reads' HO_5.out).2.2 | (with_reducible refine Kd.C_alloc ?_ _) | (with_reducible refine Kd.C_drewN ?_ _) | (with_reducible refine Kd.C_drew ?_))); (case side2 => exact (Kd.R_reads' HO_5.out).2.1); rintro e w' ⟨rfl, ⟨nd, rfl⟩⟩; refine ⟨_, rfl, ?_⟩; (try (rw [drewN_self wr]; generalize hq_ : World.drewN wr _ = wr; have n0_ : Aside0 (Kd.S (Kd.slice 5 (Kd.int .u8)) 34 wr w.heap.size (fun k_ => some k_ ≠ (u7 : Value).ownBlock) v104 t101) := ⟨by rw [← hq_]; exact (by (with_reducible repeat (first | apply Kd.S_alloc | apply Kd.S_drewN | apply Kd.S_drew)); exact HO_4.out)⟩; have n1_ : Aside0 (Kd.R (Kd.int .i64) 3 wr w.heap.size (fun _ => True) (.slice Ao16 t102.length co16) t102) := ⟨by rw [← hq_]; exact (by (with_reducible repeat (first | apply Kd.R_alloc | apply Kd.R_drewN | apply Kd.R_drew)); exact HO_5.out)⟩; have n2_ : Aside0 (Kd.S (Kd.slice 5 (Kd.int .u8)) 34 wr w.heap.size (fun k_ => some k_ ≠ (v104 : Value).ownBlock) u7 x7_1) := ⟨by rw [← hq_]; exact (by (with_reducible repeat (first | apply Kd.S_alloc | apply Kd.S_drewN | apply Kd.S_drew)); exact HO_7.out)⟩; have n3_ : Aside0 (Below w.heap.size w wr) := ⟨by rw [← hq_]; exact (by repeat (first | (with_reducible first | exact HB.out | apply below_alloc | apply pw_below_drewN | apply below_drew1) | exact HB.out))⟩; clear HO_4 HO_5 HO_7 HB hq_; have HO_4 := n0_; have HO_5 := n1_; have HO_7 := n2_; have HB := n3_; clear n0_ n1_ n2_ n3_))) | ((with_reducible refine gate_callee (f := 56) rfl ?_); refine goesL_ (some 30) rfl rfl Try.func56 (by kernel_rfl) rfl #[.slice A0 l0.length c0] rfl (by (try simp only [List.map_toArray, List.map_cons, List.map_nil]); first | done | rfl | (simp only [List.length_drop, List.length_take]; rfl)) ?_; (with_reducible refine (matrix_columns.calls _ _ l0 t110 _ ?side1 ?side2 A10.out).mono ?_); (case side1 => repeat (first | exact (Kd.C_below HR0.out HB.out) | (with_reducible refine Kd.C_alloc ?_ _) | (with_reducible refine Kd.C_drewN ?_ _) | (with_reducible refine Kd.C_drew ?_))); (case side2 => exact HC0.out); rintro e w' ⟨rfl, ⟨nd, rfl⟩⟩; refine ⟨_, rfl, ?_⟩; (try (rw [drewN_self wr]; generalize hq_ : World.drewN wr _ = wr; have n0_ : Aside0 (Kd.S (Kd.slice 5 (Kd.int .u8)) 34 wr w.heap.size (fun k_ => some k_ ≠ (u7 : Value).ownBlock) v104 t101) := ⟨by rw [← hq_]; exact (by (with_reducible repeat (first | apply Kd.S_alloc | apply Kd.S_drewN | apply Kd.S_drew)); exact HO_4.out)⟩; have n1_ : Aside0 (Kd.R (Kd.int .i64) 3 wr w.heap.size (fun _ => True) (.slice Ao16 t102.length co16) t102) := ⟨by rw [← hq_]; exact (by (with_reducible repeat (first | apply Kd.R_alloc | apply Kd.R_drewN | apply Kd.R_drew)); exact HO_5.out)⟩; have n2_ : Aside0 (Kd.S (Kd.slice 5 (Kd.int .u8)) 34 wr w.heap.size (fun k_ => some k_ ≠ (v104 : Value).ownBlock) u7 x7_1) := ⟨by rw [← hq_]; exact (by (with_reducible repeat (first | apply Kd.S_alloc | apply Kd.S_drewN | apply Kd.S_drew)); exact HO_7.out)⟩; have n3_ : Aside0 (Below w.heap.size w wr) := ⟨by rw [← hq_]; exact (by repeat (first | (with_reducible first | exact HB.out | apply below_alloc | apply pw_below_drewN | apply below_drew1) | exact HB.out))⟩; clear HO_4 HO_5 HO_7 HB hq_; have HO_4 := n0_; have HO_5 := n1_; have HO_7 := n2_; have HB := n3_; clear n0_ n1_ n2_ n3_))) | ((with_reducible refine gate_dst (N := 31) rfl ?_); refine Kd.R_make (Kd.int .u8) _ 5 rfl (N := 31) rfl 34 _ _ rfl t110 rfl rfl Try.underlying34 (.int .u8 0) 1 info5 rfl (by decide) (by omega) 0 (ok := fun _ => True) (okp := fun _ => True) rfl (fun _ hk => hk) trivial (of_decide_eq_true (by first | (with_reducible assumption) | assumption)) (Nat.le_trans (Nat.mul_le_mul_right _ (of_decide_eq_true (by first | (with_reducible assumption) | assumption) : t110.toNat ≤ 281474976710656)) (by omega)) (Below.refl _ _) (Nat.le_refl _) ?_; intro v112 w17 ho18 hb hg_ hnew_; clear hg_ hnew_; (first | rw [← Ny111.out] at ho18 | (simp only [Int.reduceToNat] at ho18; rw [← Ny111.out] at ho18)); have n0_ := Aside0.mk (Kd.S_elder' (by (with_reducible repeat (first | apply Kd.S_alloc | apply Kd.S_drewN | apply Kd.S_drew)); exact HO_4.out) (Kd.R_base ho18) hb); have n1_ := Aside0.mk (Kd.R_below (by (with_reducible repeat (first | apply Kd.R_alloc | apply Kd.R_drewN | apply Kd.R_drew)); exact HO_5.out) hb); have n2_ := Aside0.mk (Kd.S_elder' (by (with_reducible repeat (first | apply Kd.S_alloc | apply Kd.S_drewN | apply Kd.S_drew)); exact HO_7.out) (Kd.R_base ho18) hb); have n3_ := Aside0.mk (Kd.R_lower ho18 (below_size (by repeat (first | (with_reducible first | exact HB.out | apply below_alloc | apply pw_below_drewN | apply below_drew1) | exact HB.out)))); have n4_ := Aside0.mk (below_step (by repeat (first | (with_reducible first | exact HB.out | apply below_alloc | apply pw_below_drewN | apply below_drew1) | exact HB.out)) hb); clear HO_4; clear HO_5; clear HO_7; clear HB; have HO_4 := n0_; have HO_5 := n1_; have HO_7 := n2_; have HO113 := n3_; have HB := n4_; clear n0_ n1_ n2_ n3_ n4_; clear hb ho18; have p15 : 0 ≤ (x23_1 : Int) := of_decide_eq_true (by first | (with_reducible assumption) | assumption); have q15 : (x23_1 : Int) < ((y111.length : Int) : Int) := of_decide_eq_true (by first | (with_reducible assumption) | assumption); obtain ⟨go15, co15, eo15, gb15, gl15, cl15, HG15⟩ := Kd.R_form HO113.out (by omega); (first | cases eo15 | (injection eo15 with ea_ en_ ec_; (first | subst ea_ | (injection ea_ with ea_; subst ea_)); subst ec_; clear en_)); have GB15 := Aside0.mk gb15; have GG15 := Aside0.mk HG15; clear gb15 gl15 HG15; obtain ⟨hx15_0, hf15_0⟩ := Kd.R_celln 0 HO113.out (x23_1 : Int) p15 q15; replace p15 := eq_true p15; replace q15 := eq_true q15; obtain ⟨hy19_, hz19_⟩ := Kd.R_celln 0 HO113.out (x23_1 : Int) (of_decide_eq_true (by first | (with_reducible assumption) | assumption)) (of_decide_eq_true (by first | (with_reducible assumption) | assumption)); have HP19 := Kd.R_putg HO113.out (x23_1 : Int) 1) | ((with_reducible refine gate_store (t := 5) (p := 34) rfl ?_); refine store_event (t := 5) (p := 34) (v := ?vo_w20) (w1 := (w17.setCell ⟨go15, (x23_1 : Int).toNat, none⟩ (.int .u8 1))) ?hg ?ho ?hn ?hr ?_; (case ho => rfl); (case hg => rfl); (case hn => rfl); (case hr => first | (go_simp; done) | (go_simp; rfl)); intro w20 hw; have hg : w17.grownBy w20 (some go15) := (by rw [hw]; exact HP19.2); have hp_ : Kd.R (Kd.int .u8) 5 w20 w.heap.size (fun _ => True) (.slice (some ⟨go15, 0, none⟩) y111.length co15) y114 := (by rw [hw, Ny114.out]; exact HP19.1); clear HP19; have n0_ := Aside0.mk (Kd.S_after (v := (.slice (some ⟨go15, 0, none⟩) y111.length co15)) (v1 := (.slice (some ⟨go15, 0, none⟩) y111.length co15)) (ok := (fun k_ => some k_ ≠ (u7 : Value).ownBlock)) (by (with_reducible repeat (first | apply Kd.S_alloc | apply Kd.S_drewN | apply Kd.S_drew)); exact HO_4.out) hg (.inl rfl)); have n1_ := Aside0.mk (Kd.R_over' (v := (.slice (some ⟨go15, 0, none⟩) y111.length co15)) (by (with_reducible repeat (first | apply Kd.R_alloc | apply Kd.R_drewN | apply Kd.R_drew)); exact HO_5.out) (Kd.R_typed HO113.out) (by decide) hg); have n2_ := Aside0.mk (Kd.S_after (v := (.slice (some ⟨go15, 0, none⟩) y111.length co15)) (v1 := (.slice (some ⟨go15, 0, none⟩) y111.length co15)) (ok := (fun k_ => some k_ ≠ (v104 : Value).ownBlock)) (by (with_reducible repeat (first | apply Kd.S_alloc | apply Kd.S_drewN | apply Kd.S_drew)); exact HO_7.out) hg (.inl rfl)); have n3_ := Aside0.mk (hp_); have n4_ := Aside0.mk ((by rw [hw]; exact below_set (HB.out) GB15.out : Below w.heap.size w w20)); clear HO_4; clear HO_5; clear HO_7; clear HO113; clear HB; have HO_4 := n0_; have HO_5 := n1_; have HO_7 := n2_; have HO113 := n3_; have HB := n4_; clear n0_ n1_ n2_ n3_ n4_; clear hg hw hp_))
                    go_loopg [37] k1 (fun kq v37 w' => ∃ (x9_2 : List Int) (x37_2 : Int), v37 = .int .i64 x37_2 ∧ Aside0 (matrix_Kernel.l1 kq l0 t101 t102 x7_1 x23_1 x9_2 t108 x23_1 t102 (t102.length : Int) x37_2 = some (r1, r2)) ∧ Aside0 (kq ≤ k1) ∧ Aside0 (Kd.S (Kd.slice 5 (Kd.int .u8)) 34 w' w.heap.size (fun k_ => some k_ ≠ (u7 : Value).ownBlock ∧ some k_ ≠ ((.slice (some ⟨go15, 0, none⟩) y111.length co15) : Value).ownBlock) v104 t101) ∧ Aside0 (Kd.R (Kd.int .i64) 3 w' w.heap.size (fun _ => True) (.slice Ao16 t102.length co16) t102) ∧ Aside0 (Kd.S (Kd.slice 5 (Kd.int .u8)) 34 w' w.heap.size (fun k_ => some k_ ≠ (v104 : Value).ownBlock ∧ some k_ ≠ ((.slice (some ⟨go15, 0, none⟩) y111.length co15) : Value).ownBlock) u7 x7_1) ∧ Aside0 (Kd.R (Kd.int .u8) 5 w' w.heap.size (fun _ => True) (.slice (some ⟨go15, 0, none⟩) y111.length co15) x9_2) ∧ Aside0 (Kd.R (Kd.int .i64) 3 w' w.heap.size (fun _ => True) (.slice Ao16 t102.length co16) t102) ∧ Aside0 (Below w.heap.size w w'))
                    case atStart => exact ⟨(y114), (0), (by first | rfl | (simp; done) | (simp [*]; done)), H', ⟨Nat.le_refl _⟩, ⟨by (with_reducible repeat (first | apply Kd.S_alloc | apply Kd.S_drewN | apply Kd.S_drew)); exact HO_4.out⟩, ⟨by (with_reducible repeat (first | apply Kd.R_alloc | apply Kd.R_drewN | apply Kd.R_drew)); exact HO_5.out⟩, ⟨by (with_reducible repeat (first | apply Kd.S_alloc | apply Kd.S_drewN | apply Kd.S_drew)); exact HO_7.out⟩, ⟨by (with_reducible repeat (first | apply Kd.R_alloc | apply Kd.R_drewN | apply Kd.R_drew)); exact HO113.out⟩, ⟨by (with_reducible repeat (first | apply Kd.R_alloc | apply Kd.R_drewN | apply Kd.R_drew)); exact HO_5.out⟩, ⟨by repeat (first | (with_reducible first | exact HB.out | apply below_alloc | apply pw_below_drewN | apply below_drew1) | exact HB.out)⟩⟩
                    case round =>
                      clear H'
                      try clear c1
                      try clear p1
                      try clear q1
                      try clear hx1
                      try clear hf1
                      try clear c2
                      try clear p2
                      try clear c3
                      try clear c3b0
                      try clear c3b1
                      try clear c5
                      try clear c6
                      try clear c6b0
                      try clear p6
                      try clear c8
                      try clear c11
                      try clear c11b0
                      try clear c11b1
                      try clear c12
                      try clear c12b0
                      try clear c12b1
                      try clear c13
                      try clear c13b0
                      try clear c14
                      try clear c14b0
                      try clear p15
                      try clear q15
                      try clear hx15
                      try clear hf15
                      try clear c19
                      try clear hx15_0
                      try clear p15
                      try clear p2
                      try clear q15
                      obtain ⟨x9_2, x37_2, rfl, HA, HK2, HO_4, HO_5, HO_7, HO_9, HO_35, HB⟩ := hrel
                      have hl9_2 := (Kd.R_reads' HO_9.out).1
                      rw [hl9_2] at HO_9
                      (try simp only [hl9_2])
                      (try simp only [hl9_2] at HO_4)
                      (try simp only [hl9_2] at HO_5)
                      (try simp only [hl9_2] at HO_7)
                      (try simp only [hl9_2] at HO_35)
                      cases gk with
                      | zero => exact absurd HA.out (by simp [matrix_Kernel.l1])
                      | succ k2 =>
                        have H := HA.out
                        clear HA
                        simp only [matrix_Kernel.l1] at H
                        by_cases c21 : x37_2 < (t102.length : Int)
                        · rw [if_pos c21] at H
                          have c21b0 : decide (x37_2 < (t102.length : Int)) = true := decide_eq_true c21
                          (try (have c21b0x := c21b0; rw [hl9_2] at c21b0x))
                          clear c21
                          by_cases c22 : 0 ≤ x37_2
                          · rw [if_pos c22] at H
                            have c22b0 : decide (0 ≤ x37_2) = true := decide_eq_true c22
                            (try (have c22b0x := c22b0; rw [hl9_2] at c22b0x))
                            clear c22
                            by_cases c23 : x37_2 < (t102.length : Int)
                            · rw [if_pos c23] at H
                              have c23b0 : decide (x37_2 < (t102.length : Int)) = true := decide_eq_true c23
                              (try (have c23b0x := c23b0; rw [hl9_2] at c23b0x))
                              clear c23
                              by_cases c24 : x37_2 < (t101.length : Int)
                              · rw [if_pos c24] at H
                                have c24b0 : decide (x37_2 < (t101.length : Int)) = true := decide_eq_true c24
                                (try (have c24b0x := c24b0; rw [hl9_2] at c24b0x))
                                clear c24
                                by_cases c25 : 0 ≤ x23_1
                                · rw [if_pos c25] at H
                                  have c25b0 : decide (0 ≤ x23_1) = true := decide_eq_true c25
                                  (try (have c25b0x := c25b0; rw [hl9_2] at c25b0x))
                                  clear c25
                                  by_cases c26 : x23_1 < ((rd_L1 t101 x37_2).length : Int)
                                  · rw [if_pos c26] at H
                                    have c26b0 : decide (x23_1 < ((rd_L1 t101 x37_2).length : Int)) = true := decide_eq_true c26
                                    (try (have c26b0x := c26b0; rw [hl9_2] at c26b0x))
                                    clear c26
                                    by_cases c27 : 0 ≤ (rd t102 x37_2)
                                    · rw [if_pos c27] at H
                                      have c27b0 : decide (0 ≤ (rd t102 x37_2)) = true := decide_eq_true c27
                                      (try (have c27b0x := c27b0; rw [hl9_2] at c27b0x))
                                      clear c27
                                      by_cases c28 : (rd t102 x37_2) < (x9_2.length : Int)
                                      · rw [if_pos c28] at H
                                        have c28b0 : decide ((rd t102 x37_2) < (x9_2.length : Int)) = true := decide_eq_true c28
                                        (try (have c28b0x := c28b0; rw [hl9_2] at c28b0x))
                                        clear c28
                                        obtain ⟨y118, hy118⟩ : ∃ y_ : List Int, y_ = (x9_2.set ((rd t102 x37_2) : Int).toNat (rd (rd_L1 t101 x37_2) x23_1)) := ⟨_, rfl⟩
                                        replace H : (matrix_Kernel.l1 k2 l0 t101 t102 x7_1 x23_1 y118 t108 x23_1 t102 (t102.length : Int) (wrap64 (x37_2 + 1))) = some (r1, r2) := by first | (rw [hy118]; with_reducible exact H) | (have H2_ := (Option.bind_some _ _).symm.trans H; rw [hy118]; with_reducible exact H2_) | (have H2_ := (Option.bind_some _ _).symm.trans H; with_reducible exact H2_) | with_reducible exact H | (rw [hy118]; exact H) | exact H
                                        have Ny118 := Aside0.mk hy118
                                        clear hy118
                                        have H' := Aside0.mk H
                                        clear H
                                        have p115 : 0 ≤ (x37_2 : Int) := of_decide_eq_true (by first | (with_reducible assumption) | assumption)
                                        have q115 : x37_2 < (t102.length : Int) := of_decide_eq_true (by first | (with_reducible assumption) | assumption)
                                        obtain ⟨ad115, e115, hx115_0⟩ := Kd.at_int (Kd.R_reads' HO_35.out).2.2 x37_2 p115 q115
                                        cases e115
                                        replace p115 := eq_true p115
                                        replace q115 := eq_true q115
                                        obtain ⟨Ao30, co30, eo30⟩ := Kd.S_slice HO_4.out
                                        subst eo30
                                        have p116 : 0 ≤ (x37_2 : Int) := of_decide_eq_true (by first | (with_reducible assumption) | assumption)
                                        have q116 : x37_2 < (t101.length : Int) := of_decide_eq_true (by first | (with_reducible assumption) | assumption)
                                        obtain ⟨ad116, A116_0, c116_0, e116, hx116_0, hl116_0, hi116_0⟩ := at_L1 (Kd.S_reads' HO_4.out).2.2 x37_2 p116 q116
                                        cases e116
                                        obtain ⟨ce116, hce116, hMe116, hcc116⟩ := Kd.S_get HO_4.out [] x37_2 p116 (by first | exact q116 | exact of_decide_eq_true (by first | (with_reducible assumption) | assumption) | (have e_ := (Kd.S_reads' HO_4.out).1; omega))
                                        obtain ⟨ve116_0, rfl, ge116_0⟩ := hMe116
                                        have hv116_0 := hcc116 0 _ rfl
                                        rw [Nat.add_zero, show ((Kd.slice 5 (Kd.int .u8))).sz = 1 from rfl, Nat.mul_one] at hv116_0
                                        replace hv116_0 := Option.some.inj (hv116_0.symm.trans hx116_0)
                                        rw [hv116_0] at ge116_0
                                        have HL116_0 := Aside0.mk (show Kd.R (Kd.int .u8) 5 _ _ _ _ (rd_L1 t101 x37_2) from ge116_0)
                                        clear hv116_0 ge116_0
                                        clear hcc116 hce116
                                        have HR116_0 := Aside0.mk hi116_0
                                        have HC116_0 := Aside0.mk hl116_0
                                        clear hi116_0 hl116_0
                                        replace p116 := eq_true p116
                                        replace q116 := eq_true q116
                                        have p117 : 0 ≤ (x23_1 : Int) := of_decide_eq_true (by first | (with_reducible assumption) | assumption)
                                        have q117 : x23_1 < ((rd_L1 t101 x37_2).length : Int) := of_decide_eq_true (by first | (with_reducible assumption) | assumption)
                                        obtain ⟨ad117, e117, hx117_0⟩ := Kd.at_int (by repeat (first | (with_reducible exact HR116_0.out) | (with_reducible refine Kd.C_alloc ?_ _) | (with_reducible refine Kd.C_drewN ?_ _) | (with_reducible refine Kd.C_drew ?_) | exact HR116_0.out)) x23_1 p117 q117
                                        cases e117
                                        replace p117 := eq_true p117
                                        replace q117 := eq_true q117
                                        have p29 : 0 ≤ ((rd t102 x37_2) : Int) := of_decide_eq_true (by first | (with_reducible assumption) | assumption)
                                        have q29 : ((rd t102 x37_2) : Int) < ((x9_2.length : Int) : Int) := of_decide_eq_true (by first | (with_reducible assumption) | assumption)
                                        obtain ⟨hx29_0, hf29_0⟩ := Kd.R_celln 0 HO_9.out ((rd t102 x37_2) : Int) p29 q29
                                        replace p29 := eq_true p29
                                        replace q29 := eq_true q29
                                        have HP31 := Kd.R_putg HO_9.out ((rd t102 x37_2) : Int) (rd (rd_L1 t101 x37_2) x23_1)
                                        go_wp2_with (first | ((with_reducible refine gate_store (t := 5) (p := 51) rfl ?_); refine store_event (t := 5) (p := 51) (v := ?vo_w32) (w1 := (wr.setCell ⟨go15, ((rd t102 x37_2) : Int).toNat, none⟩ (.int .u8 (rd (rd_L1 t101 x37_2) x23_1)))) ?hg ?ho ?hn ?hr ?_; (case ho => rfl); (case hg => rfl); (case hn => rfl); (case hr => first | (go_simp; done) | (go_simp; rfl)); intro w32 hw; have hg : wr.grownBy w32 (some go15) := (by rw [hw]; exact HP31.2); have hp_ : Kd.R (Kd.int .u8) 5 w32 w.heap.size (fun _ => True) (.slice (some ⟨go15, 0, none⟩) x9_2.length co15) y118 := (by rw [hw, Ny118.out]; exact HP31.1); clear HP31; have n0_ := Aside0.mk (Kd.S_after (v := (.slice (some ⟨go15, 0, none⟩) x9_2.length co15)) (v1 := (.slice (some ⟨go15, 0, none⟩) x9_2.length co15)) (ok := (fun k_ => some k_ ≠ (u7 : Value).ownBlock)) (by (with_reducible repeat (first | apply Kd.S_alloc | apply Kd.S_drewN | apply Kd.S_drew)); exact HO_4.out) hg (.inl rfl)); have n1_ := Aside0.mk (Kd.R_over' (v := (.slice (some ⟨go15, 0, none⟩) x9_2.length co15)) (by (with_reducible repeat (first | apply Kd.R_alloc | apply Kd.R_drewN | apply Kd.R_drew)); exact HO_5.out) (Kd.R_typed HO_9.out) (by decide) hg); have n2_ := Aside0.mk (Kd.S_after (v := (.slice (some ⟨go15, 0, none⟩) x9_2.length co15)) (v1 := (.slice (some ⟨go15, 0, none⟩) x9_2.length co15)) (ok := (fun k_ => some k_ ≠ (.slice (some ad116) t101.length co30 : Value).ownBlock)) (by (with_reducible repeat (first | apply Kd.S_alloc | apply Kd.S_drewN | apply Kd.S_drew)); exact HO_7.out) hg (.inl rfl)); have n3_ := Aside0.mk (hp_); have n4_ := Aside0.mk (Kd.R_over' (v := (.slice (some ⟨go15, 0, none⟩) x9_2.length co15)) (by (with_reducible repeat (first | apply Kd.R_alloc | apply Kd.R_drewN | apply Kd.R_drew)); exact HO_35.out) (Kd.R_typed HO_9.out) (by decide) hg); have n5_ := Aside0.mk (Kd.R_after (v := (.slice (some ⟨go15, 0, none⟩) x9_2.length co15)) (v1 := (.slice (some ⟨go15, 0, none⟩) x9_2.length co15)) (ok := (fun k_ => some k_ ≠ (.slice (some ad116) t101.length co30 : Value).ownBlock ∧ some k_ ≠ (u7 : Value).ownBlock)) (by (with_reducible repeat (first | apply Kd.R_alloc | apply Kd.R_drewN | apply Kd.R_drew)); exact Kd.R_mono HL116_0.out (fun _ hk => ⟨⟨hk.2, hk.1.1⟩, hk.1.2⟩)) hg (.inl rfl)); have n6_ := Aside0.mk ((by rw [hw]; exact below_set (HB.out) GB15.out : Below w.heap.size w w32)); clear HO_4; clear HO_5; clear HO_7; clear HO_9; clear HO_35; clear HL116_0; clear HB; have HO_4 := n0_; have HO_5 := n1_; have HO_7 := n2_; have HO_9 := n3_; have HO_35 := n4_; have HL116_0 := n5_; have HB := n6_; clear n0_ n1_ n2_ n3_ n4_ n5_ n6_; clear hg hw hp_))
                                        (try simp only [← hl9_2])
                                        go_roundg k2
                                        case measure => have := HK1.out; have := HK2.out; omega
                                        case rel => exact ⟨(y118), (wrap64 (x37_2 + 1)), (by first | rfl | (simp; done) | (simp [*]; done)), H', ⟨by have := HK1.out; have := HK2.out; omega⟩, ⟨by (try simp only [hl9_2]); (with_reducible repeat (first | apply Kd.S_alloc | apply Kd.S_drewN | apply Kd.S_drew)); exact HO_4.out⟩, ⟨by (try simp only [hl9_2]); (with_reducible repeat (first | apply Kd.R_alloc | apply Kd.R_drewN | apply Kd.R_drew)); exact HO_5.out⟩, ⟨by (try simp only [hl9_2]); (with_reducible repeat (first | apply Kd.S_alloc | apply Kd.S_drewN | apply Kd.S_drew)); exact HO_7.out⟩, ⟨by (try simp only [hl9_2]); (with_reducible repeat (first | apply Kd.R_alloc | apply Kd.R_drewN | apply Kd.R_drew)); exact HO_9.out⟩, ⟨by (try simp only [hl9_2]); (with_reducible repeat (first | apply Kd.R_alloc | apply Kd.R_drewN | apply Kd.R_drew)); exact HO_35.out⟩, ⟨by repeat (first | (with_reducible first | exact HB.out | apply below_alloc | apply pw_below_drewN | apply below_drew1) | exact HB.out)⟩⟩
                                      · rw [if_neg c28] at H
                                        exact absurd H (by simp)
                                    · rw [if_neg c27] at H
                                      exact absurd H (by simp)
                                  · rw [if_neg c26] at H
                                    exact absurd H (by simp)
                                · rw [if_neg c25] at H
                                  exact absurd H (by simp)
                              · rw [if_neg c24] at H
                                exact absurd H (by simp)
                            · rw [if_neg c23] at H
                              exact absurd H (by simp)
                          · rw [if_neg c22] at H
                            exact absurd H (by simp)
                        · rw [if_neg c21] at H
                          have c21b0 : decide (x37_2 < (t102.length : Int)) = false := decide_eq_false c21
                          (try (have c21b0x := c21b0; rw [hl9_2] at c21b0x))
                          clear c21
                          by_cases c33 : x7_1.length < 5864062014805
                          · rw [if_pos c33] at H
                            have LMc33 := Aside0.mk c33
                            clear c33
                            obtain ⟨y119, hy119⟩ : ∃ y_ : List (List Int), y_ = (x7_1 ++ [x9_2]) := ⟨_, rfl⟩
                            replace H : (matrix_Kernel.l0 k2 l0 t101 t102 y119 t108 (wrap64 (x23_1 + 1))) = some (r1, r2) := by first | (rw [hy119]; with_reducible exact H) | (have H2_ := (Option.bind_some _ _).symm.trans H; rw [hy119]; with_reducible exact H2_) | (have H2_ := (Option.bind_some _ _).symm.trans H; with_reducible exact H2_) | with_reducible exact H | (rw [hy119]; exact H) | exact H
                            have Ny119 := Aside0.mk hy119
                            clear hy119
                            have H' := Aside0.mk H
                            clear H
                            go_wp2_with (first | ((with_reducible refine gate_builtin (b := .append) (xs := #[.tmp 53, .tmp 55]) rfl ?_); at_builtin; refine Kd.S_append (Kd.slice 5 (Kd.int .u8)) (w0 := w) w.heap.size rfl (.tmp 53) (.tmp 55) 22 34 (.slice none 0 0) 24 rfl Try.underlying22 info34 rfl (by decide) (by omega) u7 x7_1 x9_2 [.slice (some ⟨go15, 0, none⟩) x9_2.length co15] (fun k_ => some k_ ≠ (v104 : Value).ownBlock) (fun k_ => some k_ = (.slice (some ⟨go15, 0, none⟩) x9_2.length co15 : Value).ownBlock) rfl rfl ?aP (fun k_ hk_ => ((Kd.R_mono (ok' := fun k_ => ((fun k_ => some k_ ≠ (v104 : Value).ownBlock)) k_ ∧ some k_ ≠ (u7 : Value).ownBlock) (Kd.R_apart' (Kd.R_apart' (HO_9.out) (Kd.S_typed HO_4.out) (by decide)) (Kd.S_typed HO_7.out) (by decide)) (fun k_ hk => ⟨hk.1.2, hk.2⟩))).1 k_ hk_.symm) ?aF ?aO ?aB ?aS ?aL ?_; (case aP => exact Kd.M_row (Kd.R_mono (Kd.R_tight rfl (Kd.R_mono (ok' := fun k_ => ((fun k_ => some k_ ≠ (v104 : Value).ownBlock)) k_ ∧ some k_ ≠ (u7 : Value).ownBlock) (Kd.R_apart' (Kd.R_apart' (HO_9.out) (Kd.S_typed HO_4.out) (by decide)) (Kd.S_typed HO_7.out) (by decide)) (fun k_ hk => ⟨hk.1.2, hk.2⟩))) (fun _ h_ => h_))); (case aB => exact (by repeat (first | (with_reducible first | exact HB.out | apply below_alloc | apply pw_below_drewN | apply below_drew1) | exact HB.out))); (case aF => exact (fun k_ hk => Kd.fresh' (Kd.S_lt (by (with_reducible repeat (first | apply Kd.S_alloc | apply Kd.S_drewN | apply Kd.S_drew)); exact HO_4.out)) k_ hk)); (case aO => exact (by (with_reducible repeat (first | apply Kd.S_alloc | apply Kd.S_drewN | apply Kd.S_drew)); exact Kd.S_mono HO_7.out (fun k_ hk => ⟨hk.1, fun e_ => hk.2 e_⟩))); (case aS => exact (below_size (by repeat (first | (with_reducible first | exact HB.out | apply below_alloc | apply pw_below_drewN | apply below_drew1) | exact HB.out)))); (case aL => have := LMc33.out; omega); intro v120 w34 ho hb hg hat; rw [← Ny119.out] at ho; have n0_ := Aside0.mk (Kd.S_after (ok := (fun k_ => some k_ ≠ (.slice (some ⟨go15, 0, none⟩) x9_2.length co15 : Value).ownBlock)) (by (with_reducible repeat (first | apply Kd.S_alloc | apply Kd.S_drewN | apply Kd.S_drew)); exact Kd.S_mono HO_4.out (fun _ hk => ⟨hk.2, hk.1⟩)) hg hat); have n1_ := Aside0.mk (Kd.R_over' (by (with_reducible repeat (first | apply Kd.R_alloc | apply Kd.R_drewN | apply Kd.R_drew)); exact HO_5.out) (Kd.S_typed (by (with_reducible repeat (first | apply Kd.S_alloc | apply Kd.S_drewN | apply Kd.S_drew)); exact HO_7.out)) (by decide) hg); have n2_ := Aside0.mk (Kd.R_over' (by (with_reducible repeat (first | apply Kd.R_alloc | apply Kd.R_drewN | apply Kd.R_drew)); exact HO_35.out) (Kd.S_typed (by (with_reducible repeat (first | apply Kd.S_alloc | apply Kd.S_drewN | apply Kd.S_drew)); exact HO_7.out)) (by decide) hg); have n3_ := Aside0.mk (hb); have n4_ := Aside0.mk (ho); clear HO_4; clear HO_5; clear HO_35; clear HB; clear HO_7; clear HO_9; have HO_4 := n0_; have HO_5 := n1_; have HO_35 := n2_; have HB := n3_; have HO121 := n4_; clear n0_ n1_ n2_ n3_ n4_; clear ho hb hg hat))
                            (try simp only [← hl9_2])
                            go_roundg k2
                            case measure => have := HK1.out; have := HK2.out; omega
                            case rel => exact ⟨(y119), (wrap64 (x23_1 + 1)), (by first | rfl | (simp; done) | (simp [*]; done)), H', ⟨by have := HK1.out; have := HK2.out; omega⟩, ⟨by (try simp only [hl9_2]); (with_reducible repeat (first | apply Kd.S_alloc | apply Kd.S_drewN | apply Kd.S_drew)); exact Kd.S_mono HO_4.out (fun _ hk => hk.2)⟩, ⟨by (try simp only [hl9_2]); (with_reducible repeat (first | apply Kd.R_alloc | apply Kd.R_drewN | apply Kd.R_drew)); exact HO_5.out⟩, ⟨by (try simp only [hl9_2]); (with_reducible repeat (first | apply Kd.S_alloc | apply Kd.S_drewN | apply Kd.S_drew)); exact HO121.out⟩, ⟨by repeat (first | (with_reducible first | exact HB.out | apply below_alloc | apply pw_below_drewN | apply below_drew1) | exact HB.out)⟩⟩
                          · rw [if_neg c33] at H
                            exact absurd H (by simp)
                  · rw [if_neg c14] at H
                    exact absurd H (by simp)
                · rw [if_neg c13] at H
                  exact absurd H (by simp)
              · rw [if_neg c12] at H
                exact absurd H (by simp)
            · rw [if_neg c11] at H
              exact absurd H (by simp)
        · rw [if_neg c6] at H
          have c6b0 : decide (x23_1 < t108) = false := decide_eq_false c6
          clear c6
          simp only [Option.some.injEq, Prod.mk.injEq] at H
          obtain ⟨rfl, rfl⟩ := H
          go_wp2
          go_ret2
          exact ⟨_, by first | rfl | (simp [errW_none, errW_some] <;> rfl) | (simp [*, errW_none, errW_some] <;> rfl), by (with_reducible repeat (first | apply Kd.S_alloc | apply Kd.S_drewN | apply Kd.S_drew)); exact Kd.S_mono HO_7.out (fun _ hk => trivial), by repeat (first | (with_reducible first | exact HB.out | apply below_alloc | apply pw_below_drewN | apply below_drew1) | exact HB.out)⟩
  · rw [if_neg c3] at H
    have c3b0 : (t103 == 0) = false := beq_eq_false_iff_ne.mpr c3
    have c3b1 : (t103 != 0) = true := bne_iff_ne.mpr c3
    simp only [Option.some.injEq, Prod.mk.injEq] at H
    obtain ⟨rfl, rfl⟩ := H
    go_enter Try.func19, Try.ntmps19
    go_wp2_with (first | ((with_reducible refine gate_callee (f := 27) rfl ?_); refine goesL_ (some 14) rfl rfl Try.func27 (by kernel_rfl) rfl #[.slice A0 l0.length c0] rfl (by (try simp only [List.map_toArray, List.map_cons, List.map_nil]); first | done | rfl | (simp only [List.length_drop, List.length_take]; rfl)) ?_; (with_reducible refine (matrix_Reduce.calls _ _ l0 t101 t102 t103 _ ?side1 ?side2 A2.out).mono ?_); (case side1 => repeat (first | exact HR0.out | (with_reducible refine Kd.C_alloc ?_ _) | (with_reducible refine Kd.C_drewN ?_ _) | (with_reducible refine Kd.C_drew ?_))); (case side2 => exact HC0.out); rintro e w35 ⟨v104, v106, rfl, ho0, ho1, hb⟩; refine ⟨_, rfl, ?_⟩; have n0_ := Aside0.mk (Kd.S_lower ho0 (below_size (by repeat (first | (with_reducible first | exact HB.out | apply below_alloc | apply pw_below_drewN | apply below_drew1) | exact HB.out)))); have n1_ := Aside0.mk (Kd.R_lower ho1 (below_size (by repeat (first | (with_reducible first | exact HB.out | apply below_alloc | apply pw_below_drewN | apply below_drew1) | exact HB.out)))); have n2_ := Aside0.mk (below_step (by repeat (first | (with_reducible first | exact HB.out | apply below_alloc | apply pw_below_drewN | apply below_drew1) | exact HB.out)) hb); clear HB; have HO105 := n0_; have HO107 := n1_; have HB := n2_; clear n0_ n1_ n2_; (try clear hb); (try clear hb2); (try clear hk); (try clear hi); (try clear ho0); (try clear ho1)))
    go_ret2
    exact ⟨_, by first | rfl | (simp [errW_none, errW_some] <;> rfl) | (simp [*, errW_none, errW_some] <;> rfl), by first | exact Kd.S_nil _ _ _ _ _ | exact Kd.N_nil _ _ _ _ _ | exact Kd.V_nil _ _ _ _ _ | exact Kd.Q_nil _ _ _ _ _ | exact Kd.R_nil _ _ _ _ _, by repeat (first | (with_reducible first | exact HB.out | apply below_alloc | apply pw_below_drewN | apply below_drew1) | exact HB.out)⟩
end Go.Proofs.Ytpkghpljgjlmjaa.K
/- A byte written into a row of rows. -/
namespace Go.Proofs.Ytpkghpljgjlmjaa.K
open Go.RowKit Go.Proofs.YtpkghpljgjlmjaaW.PrintWords Go.Proofs.YtpkghpljgjlmjaaW.PrintLast Go.Proofs.YtpkghpljgjlmjaaW.PrintMore
set_option linter.unusedVariables false
theorem S_poke {w : World} {base n c : Nat} {ad : Addr} {xs : List (List Int)} (h : Kd.S D 34 w base (fun _ => True) (.slice (some ad) n c) xs) (i k : Nat) (hi : i < n) (hk : k < (xs.getD i []).length) :
    ∃ go co, w.cell? (ad.add i) = some (.slice (some ⟨go, 0, none⟩) (xs.getD i []).length co) ∧ base ≤ go ∧ go < w.heap.size ∧ (∃ u, w.cell? ⟨go, k, none⟩ = some u) ∧ w.frozen? ⟨go, k, none⟩ = false ∧ ∀ x : Int, Kd.S D 34 (w.setCell ⟨go, k, none⟩ (.int .u8 x)) base (fun _ => True) (.slice (some ad) n c) (xs.set i ((xs.getD i []).set k x)) := by
  obtain ⟨oki, ce, hcl, hM, hcc, hok, hbk⟩ := Kd.S_borrow h [] (i : Int) (by omega) (by omega)
  obtain ⟨ve, rfl, ge⟩ := hM
  have hv := hcc 0 _ rfl
  rw [Nat.add_zero, show (D).sz = 1 from rfl, Nat.mul_one, Int.toNat_natCast] at hv
  rw [Int.toNat_natCast] at ge hbk
  obtain ⟨go, co, rfl, gb, gl, cl, hg⟩ := Kd.R_form ge (by omega)
  obtain ⟨hx, hf⟩ := Kd.R_celln 0 ge (k : Int) (by omega) (by omega)
  rw [Int.toNat_natCast] at hx hf
  refine ⟨go, co, hv, gb, gl, ⟨_, hx⟩, hf, fun x => ?_⟩
  have hP := Kd.R_putg ge (k : Int) x
  rw [Int.toNat_natCast] at hP
  exact hbk hP.2 (fun k' e => by injection e with e; subst e; exact ge.1 _ rfl) (Kd.M_row hP.1)
end Go.Proofs.Ytpkghpljgjlmjaa.K
/- The walk of fill of package matrix. -/
namespace Go.Proofs.Ytpkghpljgjlmjaa.K
open Go.RowKit Go.Proofs.YtpkghpljgjlmjaaW.PrintWords Go.Proofs.YtpkghpljgjlmjaaW.PrintLast Go.Proofs.YtpkghpljgjlmjaaW.PrintMore Kin
set_option linter.unusedVariables false
set_option linter.unusedSimpArgs false
def fillR (rows cols : Nat) (el : Nat → Nat → B) (i k a : Nat) : List B := (List.range cols).map fun b => if a < i ∨ (a = i ∧ b < k) then el a b else 0
def fillM (rows cols : Nat) (el : Nat → Nat → B) (i k : Nat) : List (List B) := (List.range rows).map fun a => fillR rows cols el i k a
theorem fillR_length (rows cols : Nat) (el : Nat → Nat → B) (i k a : Nat) : (fillR rows cols el i k a).length = cols := by simp [fillR]
theorem fillM_length (rows cols : Nat) (el : Nat → Nat → B) (i k : Nat) : (fillM rows cols el i k).length = rows := by simp [fillM]
theorem fillM_get (rows cols : Nat) (el : Nat → Nat → B) (i k a : Nat) (ha : a < rows) : (fillM rows cols el i k).getD a [] = fillR rows cols el i k a := by
  simp [fillM, List.getD_eq_getElem?_getD, List.getElem?_map, List.getElem?_range ha]
theorem fillM_zero (rows cols : Nat) (el : Nat → Nat → B) : fillM rows cols el 0 0 = List.replicate rows (List.replicate cols 0) := by
  apply List.ext_getElem
  · simp [fillM]
  · intro n h1 h2
    simp only [fillM, fillR, List.getElem_map, List.getElem_range, List.getElem_replicate]
    apply List.ext_getElem
    · simp
    · intro m h3 h4
      simp
theorem fillM_next (rows cols : Nat) (el : Nat → Nat → B) (i : Nat) : fillM rows cols el i cols = fillM rows cols el (i + 1) 0 := by
  unfold fillM
  apply List.map_congr_left
  intro a _
  unfold fillR
  apply List.map_congr_left
  intro b hb
  rw [List.mem_range] at hb
  by_cases h : a < i ∨ (a = i ∧ b < cols)
  · rw [if_pos h, if_pos (by omega)]
  · rw [if_neg h, if_neg (by omega)]
theorem fillM_step (rows cols : Nat) (el : Nat → Nat → B) (i k : Nat) (hi : i < rows) (hk : k < cols) : (fillM rows cols el i k).set i (((fillM rows cols el i k).getD i []).set k (el i k)) = fillM rows cols el i (k + 1) := by
  rw [fillM_get _ _ _ _ _ _ hi]
  apply List.ext_getElem
  · simp [fillM]
  · intro a h1 h2
    rw [List.getElem_set]
    simp only [fillM, List.getElem_map, List.getElem_range]
    by_cases ha : i = a
    · subst ha
      rw [if_pos rfl]
      apply List.ext_getElem
      · simp [fillR]
      · intro b h3 h4
        rw [List.getElem_set]
        simp only [fillR, List.getElem_map, List.getElem_range]
        by_cases hb : k = b
        · subst hb
          rw [if_pos rfl, if_pos (.inr ⟨trivial, by omega⟩)]
        · rw [if_neg hb]
          congr 1
          simp only [Nat.lt_irrefl, false_or, true_and, eq_iff_iff]
          omega
    · rw [if_neg ha]
      unfold fillR
      apply List.map_congr_left
      intro b _
      by_cases h : a < i ∨ (a = i ∧ b < k)
      · rw [if_pos h, if_pos (by omega)]
      · rw [if_neg h, if_neg (by omega)]
theorem fillM_all (rows cols : Nat) (el : Nat → Nat → B) : fillM rows cols el rows 0 = (List.range rows).map fun a => (List.range cols).map fun b => el a b := by
  unfold fillM fillR
  apply List.map_congr_left
  intro a ha
  rw [List.mem_range] at ha
  apply List.map_congr_left
  intro b _
  rw [if_pos (.inl ha)]
theorem enters77 (args : Array Value) (w : World) : (callFunc 77 args).run Try.prog w = .ok (.enter 77 args) w := by
  go_simp
set_option maxRecDepth 100000 in
set_option maxHeartbeats 4000000 in
theorem fill77_good (a : Addr) (rows cols : Nat) (el : Nat → Nat → B) (w : World) (hr : rows ≤ 64) (hc : cols ≤ 64)
    (hE : ∀ i k w', Below w.heap.size w w' → i < rows → k < cols → Calls Try.prog 77 #[.int .i64 (i : Int), .int .i64 (k : Int), .pointer (some a)] w' fun e w'' => e = .returned (.int .u8 (b2i (el i k))) ∧ Drawn0 w' w'') :
    Calls Try.prog 76 #[.int .i64 (rows : Int), .int .i64 (cols : Int), .func (Fn.func 77) #[] #[.pointer (some a)]] w fun e w' => ∃ v0_ : Value, e = .returned (.tuple #[v0_, .int .i64 0]) ∧ Kd.S (Kd.slice 5 (Kd.int .u8)) 34 w' w.heap.size (fun _ => True) v0_ (up2 (fillM rows cols el rows 0)) ∧ Below w.heap.size w w' := by
  have HE := Aside0.mk hE
  have HS1 := Aside0.mk (show matrix_size.f (rows : Int) = some true by rw [size_eq, decide_eq_true hr])
  have HS2 := Aside0.mk (show matrix_size.f (cols : Int) = some true by rw [size_eq, decide_eq_true hc])
  have HZ := Aside0.mk (zero_eq rows cols (by omega) (by omega) (k := rows + 1) (by omega))
  have hent : ∀ (args : Array Value) (w : World), (callFunc 77 args).run Try.prog w = .ok (.enter 77 args) w := enters77
  clear hE
  go_enter Try.func76, Try.ntmps76
  go_wp2_with (first | (go_at_call 57; (with_reducible refine (matrix_size.calls (rows : Int) true _ HS1.out).mono ?_); rintro e w1 ⟨rfl, ⟨n1, rfl⟩⟩) | (go_at_call 57; (with_reducible refine (matrix_size.calls (cols : Int) true _ HS2.out).mono ?_); rintro e w2 ⟨rfl, ⟨n2, rfl⟩⟩) | (go_at_call 64; (with_reducible refine (matrix_zero.calls (rows + 1) (rows : Int) (cols : Int) _ _ HZ.out).mono ?_); rintro e w4 ⟨v4, rfl, hv4, hb4⟩; have HB4 := Aside0.mk ((pw_below_drewN (Below.refl w.heap.size w) (n1 + n2)).trans hb4); have HV4 := Aside0.mk hv4; clear hv4 hb4))
  have hv4 := HV4.out
  rw [zeros_up2, ← fillM_zero rows cols el] at hv4
  obtain ⟨A4, c4, e4⟩ := Kd.S_slice hv4
  rw [up2_length, fillM_length] at e4
  clear HV4
  subst e4
  have HV4 := Aside0.mk hv4
  clear hv4
  go_loopw [9, 23] (fun _ v23 wr => ∃ i : Nat, i ≤ rows ∧ v23 = .int .i64 (i : Int) ∧ Aside0 (Kd.S D 34 wr w.heap.size (fun _ => True) (.slice A4 rows c4) (up2 (fillM rows cols el i 0)) ∧ Below w.heap.size w wr)) (fun _ v23 _ => rows - (intOf v23).toNat)
  case atStart => exact ⟨0, by omega, rfl, ⟨HV4.out, HB4.out⟩⟩
  case round =>
    obtain ⟨i, hi, rfl, HA⟩ := hrel
    obtain ⟨wo, rfl⟩ : ∃ wo : World, wo = wr := ⟨_, rfl⟩
    by_cases hi2 : i < rows
    · go_wp2
      go_loopw [10, 27] (fun _ v27 wr => ∃ k : Nat, k ≤ cols ∧ v27 = .int .i64 (k : Int) ∧ Aside0 (Kd.S D 34 wr w.heap.size (fun _ => True) (.slice A4 rows c4) (up2 (fillM rows cols el i k)) ∧ Below w.heap.size w wr)) (fun _ v27 _ => cols - (intOf v27).toNat)
      case atStart => exact ⟨0, by omega, rfl, HA⟩
      case round =>
        clear HA
        obtain ⟨k, hk, rfl, HA⟩ := hrel
        by_cases hk2 : k < cols
        · have hS := HA.out.1
          obtain ⟨ad, A0, c0, e, _, _, _⟩ := at_L1 (n := rows) (by have := (Kd.S_reads' hS).2.2; rwa [up2_length, fillM_length] at this) (i : Int) (by omega) (by omega)
          subst e
          have hg : (fillM rows cols el i k).getD i [] = fillR rows cols el i k i := fillM_get rows cols el i k i hi2
          obtain ⟨go, co, hx, hbo, hgo, ⟨u, hu⟩, hfo, hput⟩ := S_poke hS i k hi2 (by rw [getD_up2, up_length, hg, fillR_length]; exact hk2)
          rw [getD_up2, up_length, hg, fillR_length] at hx
          have HPUT := Aside0.mk hput
          have HB1 := Aside0.mk HA.out.2
          have HBO := Aside0.mk hbo
          have HGO := Aside0.mk hgo
          have i0 : (0 : Int) ≤ (i : Int) := by omega
          have i1 : (i : Int) < (rows : Int) := by omega
          have k0 : (0 : Int) ≤ (k : Int) := by omega
          have k1 : (k : Int) < (cols : Int) := by omega
          clear hS hg hput hbo hgo
          go_wp2
          go_region_with (first | (go_at_call 77; (with_reducible refine (HE.out i k _ (below_drew HB1.out) hi2 hk2).mono ?_); rintro e w5 ⟨rfl, ⟨n1, hn1⟩⟩; subst hn1) | ((with_reducible refine (HE.out i k _ (below_drew HB1.out) hi2 hk2).mono ?_); rintro e w5 ⟨rfl, ⟨n1, hn1⟩⟩; subst hn1))
          all_goals
            have hP := HPUT.out (b2i (el i k))
            rw [getD_up2, set_up, set_up2, fillM_step rows cols el i k hi2 hk2] at hP
            have HP := Aside0.mk (Kd.S_drewN hP (1 + n1))
            have HB2 : Aside0 (Below w.heap.size w ((wr.drewN (1 + n1)).setCell ⟨go, k, none⟩ (.int .u8 (b2i (el i k))))) := ⟨(pw_below_drewN HB1.out (1 + n1)).setCell HBO.out _⟩
            clear hP
            go_wp2
            go_roundw
            case rel => exact ⟨k + 1, by omega, by go_num, ⟨HP.out, HB2.out⟩⟩
            case measure => simp [intOf]; omega
        · obtain rfl : k = cols := by omega
          have HA2 := HA.out
          rw [fillM_next] at HA2
          have HA3 := Aside0.mk HA2
          clear HA2
          go_wp2
          go_roundw
          case rel => exact ⟨i + 1, by omega, by go_num, HA3⟩
          case measure => simp [intOf]; omega
    · obtain rfl : i = rows := by omega
      go_wp2
      go_ret2
      exact ⟨_, rfl, HA.out.1, HA.out.2⟩
theorem size_int (a : Int) : matrix_size.f a = some (decide (0 ≤ a ∧ a ≤ 64)) := by
  unfold matrix_size.f
  by_cases h : a ≥ 0
  · rw [if_pos h]
    congr 1
    rw [Bool.eq_iff_iff]
    simp; omega
  · rw [if_neg h]
    congr 1
    symm
    rw [decide_eq_false_iff_not]
    omega
set_option maxRecDepth 100000 in
set_option maxHeartbeats 2000000 in
theorem fill_bad (rows cols : Int) (fv : Value) (w : World) (hb : ¬ ((0 ≤ rows ∧ rows ≤ 64) ∧ (0 ≤ cols ∧ cols ≤ 64))) :
    Calls Try.prog 76 #[.int .i64 rows, .int .i64 cols, fv] w fun e w' => e = .returned (.tuple #[.slice none 0 0, .int .i64 1]) ∧ Drawn0 w w' := by
  by_cases hr : 0 ≤ rows ∧ rows ≤ 64
  · have HS1 := Aside0.mk (show matrix_size.f rows = some true by rw [size_int, decide_eq_true hr])
    have HS2 := Aside0.mk (show matrix_size.f cols = some false by rw [size_int, decide_eq_false (fun h => hb ⟨hr, h⟩)])
    clear hb hr
    go_enter Try.func76, Try.ntmps76
    go_wp2_with (first | (go_at_call 57; (with_reducible refine (matrix_size.calls rows true _ HS1.out).mono ?_); rintro e w1 ⟨rfl, ⟨n1, rfl⟩⟩) | (go_at_call 57; (with_reducible refine (matrix_size.calls cols false _ HS2.out).mono ?_); rintro e w2 ⟨rfl, ⟨n2, rfl⟩⟩))
    go_ret2
    exact ⟨rfl, ⟨⟨_, rfl⟩⟩⟩
  · have HS1 := Aside0.mk (show matrix_size.f rows = some false by rw [size_int, decide_eq_false hr])
    clear hb hr
    go_enter Try.func76, Try.ntmps76
    go_wp2_with (first | (go_at_call 57; (with_reducible refine (matrix_size.calls rows false _ HS1.out).mono ?_); rintro e w1 ⟨rfl, ⟨n1, rfl⟩⟩))
    go_ret2
    exact ⟨rfl, ⟨⟨_, rfl⟩⟩⟩
def cauchyEl (cols r c : Nat) : B := ginv (UInt8.ofNat (cols + r) ^^^ UInt8.ofNat c)
def cauchyM (rows cols : Nat) : List (List B) := (List.range rows).map fun r => (List.range cols).map fun c => cauchyEl cols r c
theorem b2i_ofNat (n : Nat) (h : n < 256) : b2i (UInt8.ofNat n) = (n : Int) := by
  unfold b2i
  rw [UInt8.toNat_ofNat']
  omega
set_option maxRecDepth 100000 in
set_option maxHeartbeats 2000000 in
theorem cauchy1_calls (cols r c : Nat) (a : Addr) (w : World) (hx : w.cell? a = some (.int .i64 (cols : Int))) (h1 : cols ≤ 64) (h2 : r < 64) (h3 : c < 64) :
    Calls Try.prog 77 #[.int .i64 (r : Int), .int .i64 (c : Int), .pointer (some a)] w fun e w' => e = .returned (.int .u8 (b2i (cauchyEl cols r c))) ∧ Drawn0 w w' := by
  have HI := Aside0.mk (inv_b (UInt8.ofNat (cols + r) ^^^ UInt8.ofNat c) (k := 18) (by omega))
  have HX := Aside0.mk (show Go.bits .xor .u8 ((cols : Int) + r) (c : Int) = b2i (UInt8.ofNat (cols + r) ^^^ UInt8.ofNat c) by
    rw [← xor_b2i, b2i_ofNat _ (by omega), b2i_ofNat _ (by omega)]
    rfl)
  have HL := Aside0.mk (show cauchyEl cols r c = ginv (UInt8.ofNat (cols + r) ^^^ UInt8.ofNat c) from rfl)
  generalize (if UInt8.ofNat (cols + r) ^^^ UInt8.ofNat c = 0 then (1 : Int) else 0) = ec at HI
  generalize (UInt8.ofNat (cols + r) ^^^ UInt8.ofNat c) = z at HI HX HL
  go_enter Try.func77, Try.ntmps77
  go_wp2_with (first | (go_at_call 78; rw [HX.out]; (with_reducible refine (gf256_Inv.calls 18 _ _ _ _ HI.out).mono ?_); rintro e w1 ⟨rfl, ⟨n1, rfl⟩⟩))
  go_ret
  exact ⟨by rw [HL.out]; rfl, ⟨⟨_, rfl⟩⟩⟩
def matrix_Cauchy.f (a0 : Int) (a1 : Int) : Option ((List (List Int)) × Int) :=
  if (0 ≤ a0 ∧ a0 ≤ 64) ∧ (0 ≤ a1 ∧ a1 ≤ 64) then some (up2 (cauchyM a0.toNat a1.toNat), 0) else some ([], 1)
set_option maxRecDepth 100000 in
set_option maxHeartbeats 2000000 in
theorem matrix_Cauchy.calls (a0 : Int) (a1 : Int) (r1 : List (List Int)) (r2 : Int) (w : World) (h : matrix_Cauchy.f a0 a1 = some (r1, r2)) :
    Calls Try.prog 49 #[.int .i64 a0, .int .i64 a1] w fun e w' => ∃ v0_ : Value, e = .returned (.tuple #[v0_, .int .i64 r2]) ∧ Kd.S (Kd.slice 5 (Kd.int .u8)) 34 w' w.heap.size (fun _ => True) v0_ r1 ∧ Below w.heap.size w w' := by
  unfold matrix_Cauchy.f at h
  by_cases hb : (0 ≤ a0 ∧ a0 ≤ 64) ∧ (0 ≤ a1 ∧ a1 ≤ 64)
  · rw [if_pos hb] at h
    simp only [Option.some.injEq, Prod.mk.injEq] at h
    obtain ⟨rfl, rfl⟩ := h
    obtain ⟨⟨h0, h1⟩, h2, h3⟩ := hb
    obtain ⟨rows, rfl⟩ := Int.eq_ofNat_of_zero_le h0
    obtain ⟨cols, rfl⟩ := Int.eq_ofNat_of_zero_le h2
    rw [Int.toNat_natCast, Int.toNat_natCast]
    have hr : rows ≤ 64 := by omega
    have hc : cols ≤ 64 := by omega
    clear h0 h1 h2 h3
    go_enter Try.func49, Try.ntmps49
    go_wp2_with (first | ((with_reducible refine gate_dst (N := 3) rfl ?_); refine box_event rfl (N := 3) rfl (cs := #[.int .i64 (cols : Int)]) (t := 3) ?hrun ?_; (case hrun => first | (go_simp; done) | (go_simp; rfl)); intro gb hgb w1 hb1 hB1; have hxb : w1.cell? ⟨gb, 0, none⟩ = some (.int .i64 (cols : Int)) := (by rw [blk_cell hb1]; rfl); have hlb := blk_lt hb1; have HB1 := Aside0.mk hB1; clear hgb hb1 hB1) | (go_at_call 76; (with_reducible refine (fill77_good ⟨gb, 0, none⟩ rows cols (cauchyEl cols) _ hr hc (fun i k w' hw hi hk => cauchy1_calls cols i k ⟨gb, 0, none⟩ w' ((hw.cell hlb).trans hxb) hc (by omega) (by omega))).mono ?_); rintro e w2 ⟨v2, rfl, hv2, hb2⟩; have HV2 := Aside0.mk hv2; have HB2 := Aside0.mk hb2; clear hv2 hb2))
    have hv := HV2.out
    rw [fillM_all] at hv
    go_ret2
    exact ⟨_, rfl, Kd.S_lower hv HB1.out.size, HB1.out.trans (HB2.out.mono HB1.out.size)⟩
  · rw [if_neg hb] at h
    simp only [Option.some.injEq, Prod.mk.injEq] at h
    obtain ⟨rfl, rfl⟩ := h
    have HB := Aside0.mk hb
    clear hb
    go_enter Try.func49, Try.ntmps49
    go_wp2_with (first | ((with_reducible refine gate_dst (N := 3) rfl ?_); refine box_event rfl (N := 3) rfl (cs := #[.int .i64 a1]) (t := 3) ?hrun ?_; (case hrun => first | (go_simp; done) | (go_simp; rfl)); intro gb hgb w1 hb1 hB1; have hxb : w1.cell? ⟨gb, 0, none⟩ = some (.int .i64 a1) := (by rw [blk_cell hb1]; rfl); have HB1 := Aside0.mk hB1; clear hgb hb1 hB1) | (go_at_call 76; (with_reducible refine (fill_bad a0 a1 _ _ HB.out).mono ?_); rintro e w2 ⟨rfl, ⟨n2, rfl⟩⟩))
    go_ret2
    exact ⟨_, rfl, Kd.S_nil _ _ _ _ _, pw_below_drewN HB1.out _⟩
end Go.Proofs.Ytpkghpljgjlmjaa.K
/- The walk of Solve of package matrix. -/
namespace Go.Proofs.Ytpkghpljgjlmjaa.K
open Go.RowKit Go.Proofs.YtpkghpljgjlmjaaW.PrintWords Go.Proofs.YtpkghpljgjlmjaaW.PrintLast Go.Proofs.YtpkghpljgjlmjaaW.PrintMore Kin
set_option linter.unusedVariables false
set_option linter.unusedSimpArgs false
def wideAt (M : List (List B)) (v : List B) (a : Nat) : List B := M.getD a [] ++ [v.getD a 0]
def wideUpto (M : List (List B)) (v : List B) (i : Nat) : List (List B) := (List.range M.length).map fun a => if a < i then wideAt M v a else []
def wideS (M : List (List B)) (v : List B) : List (List B) := (List.range M.length).map (wideAt M v)
theorem wideUpto_length (M : List (List B)) (v : List B) (i : Nat) : (wideUpto M v i).length = M.length := by simp [wideUpto]
theorem wideUpto_zero (M : List (List B)) (v : List B) : wideUpto M v 0 = List.replicate M.length [] := by
  apply List.ext_getElem
  · simp [wideUpto]
  · intro n h1 h2
    simp [wideUpto]
theorem wideUpto_all (M : List (List B)) (v : List B) : wideUpto M v M.length = wideS M v := by
  unfold wideUpto wideS
  apply List.map_congr_left
  intro a ha
  rw [List.mem_range] at ha
  rw [if_pos ha]
theorem wideUpto_step (M : List (List B)) (v : List B) (i : Nat) (hi : i < M.length) : (wideUpto M v i).set i (wideAt M v i) = wideUpto M v (i + 1) := by
  apply List.ext_getElem
  · simp [wideUpto]
  · intro a h1 h2
    rw [List.getElem_set]
    simp only [wideUpto, List.getElem_map, List.getElem_range]
    by_cases ha : i = a
    · subst ha
      rw [if_pos rfl, if_pos (by omega)]
    · rw [if_neg ha]
      by_cases h : a < i
      · rw [if_pos h, if_pos (by omega)]
      · rw [if_neg h, if_neg (by omega)]
theorem wideS_rows {M : List (List B)} {v : List B} {n : Nat} (hm : ∀ r ∈ M, r.length = n) : ∀ r ∈ wideS M v, r.length = n + 1 := by
  intro r hr
  unfold wideS at hr
  obtain ⟨a, ha, rfl⟩ := List.mem_map.1 hr
  rw [List.mem_range] at ha
  unfold wideAt
  rw [List.length_append, hm _ (getD_mem' ha)]
  rfl
theorem elimRun_pivlt (R : List (List B)) (cols : Nat) : ∀ p ∈ (elimRun R cols).2.1, p < cols := by
  induction cols with
  | zero => intro p hp; cases hp
  | succ n ih =>
    intro p hp
    rw [elimRun_succ] at hp
    unfold elimStep at hp
    split at hp
    · exact Nat.lt_succ_of_lt (ih p hp)
    · rcases List.mem_append.1 hp with h | h
      · exact Nat.lt_succ_of_lt (ih p h)
      · rw [List.mem_singleton] at h
        omega
theorem wideS_length (M : List (List B)) (v : List B) : (wideS M v).length = M.length := by simp [wideS]
def solveUpto (R : List (List B)) (piv : List Nat) (n k : Nat) : List B := (List.range k).foldl (fun o i => o.set (piv.getD i 0) ((R.getD i []).getD n 0)) (List.replicate n 0)
theorem solveUpto_succ (R : List (List B)) (piv : List Nat) (n k : Nat) : solveUpto R piv n (k + 1) = (solveUpto R piv n k).set (piv.getD k 0) ((R.getD k []).getD n 0) := by
  unfold solveUpto
  rw [List.range_succ, List.foldl_append]
  rfl
theorem solveUpto_length (R : List (List B)) (piv : List Nat) (n k : Nat) : (solveUpto R piv n k).length = n := by
  induction k with
  | zero => simp [solveUpto]
  | succ k ih => rw [solveUpto_succ, List.length_set, ih]
/-- The solution that Solve gives, if there is one. -/
def solveM (M : List (List B)) (v : List B) : Option (List B) :=
  let E := elimRun (wideS M v) (colsN M)
  if (E.1.drop E.2.1.length).all (fun r => r.getD (colsN M) 0 == 0) then some (solveUpto E.1 E.2.1 (colsN M) E.2.1.length) else none
def solveCode : Option (List B) → Int | some _ => 0 | none => 4
def solveVal : Option (List B) → List Int | some x => up x | none => []
theorem rd_natInts (l : List Nat) (k : Nat) : rd (natInts l) (k : Int) = ((l.getD k 0 : Nat) : Int) := by
  unfold natInts rd
  simp only [Int.toNat_natCast, List.getD_eq_getElem?_getD, List.getElem?_map]
  cases l[k]? <;> rfl
theorem S_slot {w : World} {base g n c : Nat} {ok : Nat → Prop} {xs : List (List Int)} (h : Kd.S D 34 w base ok (.slice (some ⟨g, 0, none⟩) n c) xs) (i : Nat) (hi : i < n) :
    ∃ A co, w.cell? ⟨g, i, none⟩ = some (.slice A (xs.getD i []).length co) ∧ (xs.getD i []).length ≤ co ∧ (Kd.int .u8).C w A (xs.getD i []).length (xs.getD i []) ∧ w.frozen? ⟨g, i, none⟩ = false := by
  obtain ⟨_, ce, hcl3, hM3, hcc3, hfr3, _, _⟩ := Kd.S_elem h [] (i : Int) (by omega) (by omega)
  obtain ⟨ve, rfl, ge⟩ := hM3
  have hxo := hcc3 0 _ rfl
  have hfo := hfr3 0
  rw [show (i : Int).toNat * (D).sz + 0 = i from by rw [Int.toNat_natCast]; show i * 1 + 0 = i; omega] at hxo hfo
  rw [Int.toNat_natCast] at ge
  obtain ⟨Ao, co, rfl⟩ := Kd.R_slice ge
  obtain ⟨_, hoc, hoR⟩ := Kd.R_reads' ge
  exact ⟨Ao, co, hxo, hoc, hoR, hfo⟩
/-- What the round's two makings have left: the copied row, and the literal of one element. -/
structure MadeS (W w' : World) (v1 v2 : Value) (row : List Int) (x : Int) : Prop where
  row : Kd.R (Kd.int .u8) 5 w' W.heap.size (fun _ => True) v1 row
  lit : Kd.R (Kd.int .u8) 5 w' W.heap.size (fun _ => True) v2 [x]
  below : Below W.heap.size W w'
theorem MadeS.one {W w4 w5 : World} {v1 v2 : Value} {row : List Int} {x : Int} (hr : Kd.R (Kd.int .u8) 5 w4 W.heap.size (fun _ => True) v1 row) (hb : Below W.heap.size W w4) (hl : Kd.R (Kd.int .u8) 5 w5 w4.heap.size (fun _ => True) v2 [x]) (hb5 : Below w4.heap.size w4 w5) : MadeS W w5 v1 v2 row x :=
  ⟨Kd.R_below hr hb5, Kd.R_lower hl hb.size, hb.trans (hb5.mono hb.size)⟩
theorem MadeS.two {W w4 w5 : World} {v1 v2 : Value} {row : List Int} {x : Int} (hl : Kd.R (Kd.int .u8) 5 w4 W.heap.size (fun _ => True) v2 [x]) (hb : Below W.heap.size W w4) (hr : Kd.R (Kd.int .u8) 5 w5 w4.heap.size (fun _ => True) v1 row) (hb5 : Below w4.heap.size w4 w5) : MadeS W w5 v1 v2 row x :=
  ⟨Kd.R_lower hr hb.size, Kd.R_below hl hb5, hb.trans (hb5.mono hb.size)⟩
def f30.T8 : Bool × List (List Nat × List Nat) := (true, [([], []), ([], []), ([], []), ([2], [2]), ([], []), ([], []), ([4, 5], [4, 5]), ([6], [6]), ([7], [7]), ([3, 8, 3], [3, 8]), ([0, 1, 0, 1, 2, 3, 4, 5, 6, 7, 8, 9], [0, 1]), ([10, 9, 9, 0, 1, 2, 3, 4, 5, 6, 7, 8, 9], [9, 10])])
def f30.B8 : List Nat := [0, 0, 0, 4, 0, 0, 48, 112, 240, 508, 1023, 2047]
theorem f30.tab8 : rtab .any (opsOf Try.f30 8) = f30.T8 := by kernel_rfl
theorem f30.bits8 : waitsOk f30.T8.2 f30.B8 = true := by kernel_rfl
set_option maxRecDepth 100000 in
set_option maxHeartbeats 4000000 in
theorem solve_good (A0 A1 : Option Addr) (c0 c1 : Nat) (M : List (List B)) (v : List B) (w : World) (hr0 : Kd.C (Kd.slice 5 (Kd.int .u8)) w A0 (up2 M).length (up2 M)) (hc0 : (up2 M).length ≤ c0) (hr1 : Kd.C (Kd.int .u8) w A1 (up v).length (up v)) (hc1 : (up v).length ≤ c1) (hv : validB M = true) (hl : v.length = M.length) :
    Calls Try.prog 30 #[.slice A0 (up2 M).length c0, .slice A1 (up v).length c1] w fun e w' => ∃ v0_ : Value, e = .returned (.tuple #[v0_, .int .i64 (solveCode (solveM M v))]) ∧ Kd.R (Kd.int .u8) 5 w' w.heap.size (fun _ => True) v0_ (solveVal (solveM M v)) ∧ Below w.heap.size w w' := by
  have HR0 := Aside0.mk hr0
  have HC0 := Aside0.mk hc0
  have HR1 := Aside0.mk hr1
  have HC1 := Aside0.mk hc1
  have HV := Aside0.mk (show matrix_Valid.f (up2 M) = some true by rw [matrix_Valid.f, validB_up2, hv])
  have HF := Aside0.mk (show matrix_columns.f (up2 M) = some (colsN M : Int) by rw [columns_eq, colsN_up2])
  obtain ⟨l1, l2, l3⟩ := validB_lim hv
  have HM := Aside0.mk l3
  have HL0 := Aside0.mk hl
  have HL1 := Aside0.mk (show colsN M ≤ 64 by omega)
  have HL2 := Aside0.mk l1
  have hne : (((up v).length : Int) != ((up2 M).length : Int)) = false := by rw [bne_eq_false_iff_eq, up_length, up2_length, hl]
  clear hr0 hc0 hr1 hc1 hv l1 l2 l3 hl
  go_enter Try.func30, Try.ntmps30
  go_wp2_with (first | (go_at_call 17; (with_reducible refine (matrix_Valid.calls _ _ (up2 M) _ _ HR0.out HC0.out HV.out).mono ?_); rintro e w1 ⟨rfl, hb⟩; have HB := Aside0.mk hb; clear hb) | (go_at_call 56; (with_reducible refine (matrix_columns.calls _ _ (up2 M) _ _ (Kd.C_below HR0.out HB.out) HC0.out HF.out).mono ?_); rintro e w2 ⟨rfl, ⟨n1, rfl⟩⟩; have HB2 := Aside0.mk (pw_below_drewN HB.out n1)) | ((with_reducible refine gate_dst (N := 30) rfl ?_); refine Kd.S_make (Kd.slice 5 (Kd.int .u8)) (w1.drewN n1).heap.size 34 rfl (N := 30) rfl 22 _ _ rfl ((up2 M).length : Int) rfl rfl Try.underlying22 (.slice none 0 0) 24 info34 rfl (by decide) (by omega) [] (ok := fun _ => True) (okp := fun _ => True) ⟨_, rfl, Kd.R_nil _ _ _ _ _⟩ (fun _ hk => hk) trivial (Int.natCast_nonneg _) (by rw [Int.toNat_natCast, up2_length]; have := HL2.out; omega) (Below.refl _ _) (Nat.le_refl _) ?_; intro v3 w3 hs3 hb3 hg3 hn3; have HS3 := Aside0.mk hs3; have HB3 := Aside0.mk hb3; have HN3 := Aside0.mk hn3; clear hs3 hb3 hg3 hn3))
  have hs : w.heap.size ≤ (w1.drewN n1).heap.size := HB2.out.size
  obtain ⟨A3, c3, e3⟩ := Kd.S_slice HS3.out
  rw [List.length_replicate, Int.toNat_natCast] at e3
  subst e3
  have hS3 := Kd.S_lower HS3.out hs
  rw [Int.toNat_natCast, up2_length, show List.replicate M.length ([] : List Int) = up2 (wideUpto M v 0) by rw [wideUpto_zero, ← up2_replicate]; rfl, ← up2_length M] at hS3
  have HSS := Aside0.mk hS3
  have HBB := Aside0.mk (HB2.out.trans (HB3.out.mono hs))
  clear hS3 hs HS3 HB3 HN3
  go_loopw [8, 9, 33] (fun _ _ v33 wr => ∃ i : Nat, i ≤ M.length ∧ v33 = .int .i64 (i : Int) ∧ Aside0 (Kd.S D 34 wr w.heap.size (fun _ => True) (.slice A3 (up2 M).length c3) (up2 (wideUpto M v i)) ∧ Below w.heap.size w wr)) (fun _ _ v33 _ => M.length - (intOf v33).toNat)
  case atStart => exact ⟨0, by omega, rfl, ⟨HSS.out, HBB.out⟩⟩
  case round =>
    clear HSS HBB
    obtain ⟨i, hi, rfl, HA⟩ := hrel
    have hul := up2_length M
    have hb64 : M.length ≤ 64 := HL2.out
    by_cases hi2 : i < M.length
    · obtain ⟨ad0, A8, c8, e, hx8, hl8, hr8⟩ := at_L1 HR0.out (i : Int) (by omega) (by omega)
      subst e
      rw [Int.toNat_natCast] at hx8
      rw [rd_L1_up2] at hx8 hl8 hr8
      replace hx8 := (HA.out.2.cell (World.block_lt_of_cell? w _ hx8)).trans hx8
      obtain ⟨ad1, e, hx9⟩ := Kd.at_int HR1.out (i : Int) (by omega) (by rw [up_length, HL0.out]; omega)
      subst e
      rw [Int.toNat_natCast, getD_up] at hx9
      have hxv := (HA.out.2.cell (World.block_lt_of_cell? w _ hx9)).trans hx9
      have hlv := (World.block_lt_of_cell? w _ hx9)
      have hlw : (ad1.add i).block < wr.heap.size := Nat.lt_of_lt_of_le hlv HA.out.2.size
      have hrl := HM.out _ (getD_mem' (l := M) (i := i) hi2)
      have hr8' := Kd.C_below hr8 HA.out.2
      obtain ⟨ad3, A9, c9, e, hx3, _, _⟩ := at_L1 (Kd.S_reads' HA.out.1).2.2 (i : Int) (by omega) (by rw [up2_length, wideUpto_length]; omega)
      subst e
      obtain ⟨gw, rfl⟩ := Kd.R_head (Kd.S_R HA.out.1)
      obtain ⟨Ag, cg, hxg, _, _, hfg⟩ := S_slot HA.out.1 i (by omega)
      have hgw := Kd.S_lt HA.out.1 gw rfl
      generalize ((up2 (wideUpto M v i)).getD i []).length = lg at hxg
      have HGW := Aside0.mk hgw
      have HLW := Aside0.mk hlw
      clear hgw hlw
      have HW := Aside0.mk (wideUpto_step M v i hi2)
      generalize hrow : M.getD i [] = rw_ at hx8 hl8 hr8 hr8' hrl
      generalize hvx : v.getD i 0 = x at hx9 hxv
      have HWA := Aside0.mk (show wideAt M v i = rw_ ++ [x] by rw [wideAt, hrow, hvx])
      have HR8 := Aside0.mk hr8'
      have HL8 := Aside0.mk hl8
      have HRL := Aside0.mk hrl
      have i0 : (0 : Int) ≤ (i : Int) := by omega
      have i1 : (i : Int) < ((up2 M).length : Int) := by omega
      have i2 : (i : Int) < ((up v).length : Int) := by rw [up_length, HL0.out]; omega
      clear hr8 hr8' hl8 hrl hx3 hrow hvx hx9 hlv
      have HCL := Aside0.mk (show slices_Clone_byte_byte.f (up rw_) = some (up rw_) by unfold slices_Clone_byte_byte.f; rw [if_pos (by rw [up_length, HRL.out]; have := HL1.out; omega)])
      go_wp2
      refine start_ (n := 12) (S := fun w' => w'.cell? (ad1.add i) = some (.int .u8 (b2i x))) (ds := [11]) #[false, false, false, false, false, false, false, false, false, false, false, false] (by kernel_rfl) rfl rfl hxv (fun hHeld => ?_)
      refine with_tabW f30.tab8 f30.bits8 (fun HT_ HW_ => ?_)
      have HA1 := Aside0.mk (Kd.S_drew HA.out.1)
      have HB1 := Aside0.mk (below_drew HA.out.2)
      replace HR8 := Aside0.mk (Kd.C_drew HR8.out)
      have HGB := Aside0.mk (Kd.S_base HA.out.1 gw rfl)
      replace hxg : wr.drew.cell? ⟨gw, i, none⟩ = some (.slice Ag lg cg) := hxg
      replace hfg : wr.drew.frozen? ⟨gw, i, none⟩ = false := hfg
      replace HGW : Aside0 (gw < wr.drew.heap.size) := HGW
      replace HLW : Aside0 ((ad1.add i).block < wr.drew.heap.size) := HLW
      clear hxv hx8 HA
      generalize wr.drew = W1 at HA1 HB1 HR8 hxg hfg HGW HLW hHeld ⊢
      have HH0 := Aside0.mk hHeld
      refine pure_ (i := 0) (N := some 38) (v := ?_) (a' := ?_) #[true, false, false, false, false, false, false, false, false, false, false, false] rfl rfl (any_of HT_.out (by kernel_rfl)) (fun _ _ _ h => h) (Or.inl ⟨by rfl, ?_⟩) ?_ ?_
      rotate_left
      · intro w'
        go_simp
        with_reducible rfl
      rotate_left
      · simp only [Act.put, List.setIfInBounds_toArray, List.set_cons_zero, List.set_cons_succ, i64_w, i32_w]
        rfl
      refine pure_ (i := 1) (N := some 39) (v := ?_) (a' := ?_) #[true, true, false, false, false, false, false, false, false, false, false, false] rfl rfl (any_of HT_.out (by kernel_rfl)) (fun _ _ _ h => h) (Or.inl ⟨by rfl, ?_⟩) ?_ ?_
      rotate_left
      · intro w'
        go_simp
        with_reducible rfl
      rotate_left
      · simp only [Act.put, List.setIfInBounds_toArray, List.set_cons_zero, List.set_cons_succ, i64_w, i32_w]
        rfl
      refine pure_ (i := 2) (N := some 40) (v := ?_) (a' := ?_) #[true, true, true, false, false, false, false, false, false, false, false, false] rfl rfl (any_of HT_.out (by kernel_rfl)) (fun _ _ _ h => h) (Or.inl ⟨by rfl, ?_⟩) ?_ ?_
      rotate_left
      · intro w'
        go_simp
        with_reducible rfl
      rotate_left
      · simp only [Act.put, List.setIfInBounds_toArray, List.set_cons_zero, List.set_cons_succ, i64_w, i32_w]
        rfl
      refine pure_ (i := 4) (N := some 42) (v := ?_) (a' := ?_) #[true, true, true, false, true, false, false, false, false, false, false, false] rfl rfl (any_of HT_.out (by kernel_rfl)) (fun _ _ _ h => h) (Or.inl ⟨by rfl, ?_⟩) ?_ ?_
      rotate_left
      · intro w'
        go_simp
        with_reducible rfl
      rotate_left
      · simp only [Act.put, List.setIfInBounds_toArray, List.set_cons_zero, List.set_cons_succ, i64_w, i32_w]
        rfl
      refine pure_ (i := 5) (N := some 43) (v := ?_) (a' := ?_) #[true, true, true, false, true, true, false, false, false, false, false, false] rfl rfl (any_of HT_.out (by kernel_rfl)) (fun _ _ _ h => h) (Or.inl ⟨by rfl, ?_⟩) ?_ ?_
      rotate_left
      · intro w'
        go_simp
        with_reducible rfl
      rotate_left
      · simp only [Act.put, List.setIfInBounds_toArray, List.set_cons_zero, List.set_cons_succ, i64_w, i32_w]
        rfl
      refine pure_ (i := 6) (N := some 44) (v := ?_) (a' := ?_) #[true, true, true, false, true, true, true, false, false, false, false, false] rfl rfl (any_of HT_.out (by kernel_rfl)) (fun _ _ _ h => h) (Or.inl ⟨by rfl, ?_⟩) ?_ ?_
      rotate_left
      · intro w'
        go_simp
        with_reducible rfl
      rotate_left
      · simp only [Act.put, List.setIfInBounds_toArray, List.set_cons_zero, List.set_cons_succ, i64_w, i32_w]
        rfl
      refine take_ (i := 7) (N := some 45) (v := ?_) (a' := ?_) #[true, true, true, false, true, true, true, true, false, false, false, false] rfl rfl (take_ofW HT_.out HW_.out (by kernel_rfl)) (fun _ _ _ h => h) (Or.inl ⟨by rfl, ?_⟩) hHeld ?_ ?_
      rotate_left
      · intro w' s0
        go_simp
        with_reducible rfl
      rotate_left
      · simp only [Act.put, List.setIfInBounds_toArray, List.set_cons_zero, List.set_cons_succ, i64_w, i32_w]
        rfl
      refine join_ (σ := Value × Value) 3 #[true, true, true, true, true, true, true, true, true, false, false, false] (fun s_ => [(41, s_.1), (46, s_.2)]) (fun s_ w' => w'.cell? (ad1.add i) = some (.int .u8 (b2i x)) ∧ MadeS W1 w' s_.1 s_.2 (up rw_) (b2i x)) ?_ ?_
      rotate_left
      · intro hCont
        refine two_ (i := 3) (j := 8) (Ni := some 41) (Nj := some 46) #[true, true, true, true, true, true, true, true, false, false, false, false] #[true, true, true, false, true, true, true, true, true, false, false, false] rfl rfl rfl rfl (two_of HT_.out (by kernel_rfl)) (by decide) (by decide) (fun K hK => ?_) (fun K hK => ?_)
        · skip
          refine goes_ Try.func63 (by kernel_rfl) rfl #[.slice A8 (up rw_).length c8] (by rfl) rfl rfl (by (try simp only [List.map_toArray, List.map_cons, List.map_nil]); first | done | rfl | (simp only [List.length_drop, List.length_take]; rfl)) ?_
          with_reducible refine (slices_Clone_byte_byte.calls _ _ (up rw_) _ _ HR8.out HL8.out HCL.out).mono ?_
          rintro e w4 ⟨v4, rfl, hv4, hb4⟩
          refine ⟨_, rfl, ?_⟩
          refine hK.out _ _ ((hb4.cell HLW.out).trans hHeld) (fun hHeld => ?_)
          clear hK K
          refine norm_ (a' := ?_) ?_ ?_
          rotate_left
          · show Act.put _ (some 41) _ = _
            simp only [Act.put, List.setIfInBounds_toArray, List.set_cons_zero, List.set_cons_succ, i64_w, i32_w]
            rfl
          refine one_ (i := 8) (N := some 46) #[true, true, true, true, true, true, true, true, true, false, false, false] rfl rfl (one_of HT_.out (by kernel_rfl)) (by decide) (fun K hK => ?_)
          refine Kd.R_lit_step (Kd.int .u8) _ 5 ?hg (N := 46) ?hd (xs := ([b2i x] : List Int)) (inner := [.int .u8 (b2i x)]) (ok := fun _ => True) (okp := fun _ => True) ?hr ?hp (fun _ hk => hk) trivial (Below.refl _ _) (Nat.le_refl _) (by simp) ?_; (case hd => rfl); (case hg => rfl); (case hr => first | (go_simp; done) | (go_simp; rfl)); (case hp => exact (Reps.one (show Kd.M (Kd.int .u8) _ _ _ (b2i x) [.int .u8 (b2i x)] from rfl) (Reps.none _ _)))
          intro v5 w5 hv5 hb5 hg5 hn5
          clear hg5 hn5
          refine hK.out _ _ ((hb5.cell (Nat.lt_of_lt_of_le HLW.out hb4.size)).trans hHeld) (fun hHeld => ?_)
          clear hK K
          refine norm_ (a' := ?_) ?_ ?_
          rotate_left
          · show Act.put _ (some 46) _ = _
            simp only [Act.put, List.setIfInBounds_toArray, List.set_cons_zero, List.set_cons_succ, i64_w, i32_w]
            rfl
          exact norm_ (by simp only [putAll, Act.put, List.setIfInBounds_toArray, List.set_cons_zero, List.set_cons_succ]) (hCont (v4, v5) _ ⟨hHeld, MadeS.one hv4 hb4 hv5 hb5⟩)
        · skip
          refine Kd.R_lit_step (Kd.int .u8) _ 5 ?hg (N := 46) ?hd (xs := ([b2i x] : List Int)) (inner := [.int .u8 (b2i x)]) (ok := fun _ => True) (okp := fun _ => True) ?hr ?hp (fun _ hk => hk) trivial (Below.refl _ _) (Nat.le_refl _) (by simp) ?_; (case hd => rfl); (case hg => rfl); (case hr => first | (go_simp; done) | (go_simp; rfl)); (case hp => exact (Reps.one (show Kd.M (Kd.int .u8) _ _ _ (b2i x) [.int .u8 (b2i x)] from rfl) (Reps.none _ _)))
          intro v5 w5 hv5 hb5 hg5 hn5
          clear hg5 hn5
          refine hK.out _ _ ((hb5.cell HLW.out).trans hHeld) (fun hHeld => ?_)
          clear hK K
          refine norm_ (a' := ?_) ?_ ?_
          rotate_left
          · show Act.put _ (some 46) _ = _
            simp only [Act.put, List.setIfInBounds_toArray, List.set_cons_zero, List.set_cons_succ, i64_w, i32_w]
            rfl
          refine one_ (i := 3) (N := some 41) #[true, true, true, true, true, true, true, true, true, false, false, false] rfl rfl (one_of HT_.out (by kernel_rfl)) (by decide) (fun K hK => ?_)
          refine goes_ Try.func63 (by kernel_rfl) rfl #[.slice A8 (up rw_).length c8] (by rfl) rfl rfl (by (try simp only [List.map_toArray, List.map_cons, List.map_nil]); first | done | rfl | (simp only [List.length_drop, List.length_take]; rfl)) ?_
          with_reducible refine (slices_Clone_byte_byte.calls _ _ (up rw_) _ _ (Kd.C_below HR8.out hb5) HL8.out HCL.out).mono ?_
          rintro e w4 ⟨v4, rfl, hv4, hb4⟩
          refine ⟨_, rfl, ?_⟩
          refine hK.out _ _ ((hb4.cell (Nat.lt_of_lt_of_le HLW.out hb5.size)).trans hHeld) (fun hHeld => ?_)
          clear hK K
          refine norm_ (a' := ?_) ?_ ?_
          rotate_left
          · show Act.put _ (some 41) _ = _
            simp only [Act.put, List.setIfInBounds_toArray, List.set_cons_zero, List.set_cons_succ, i64_w, i32_w]
            rfl
          exact norm_ (by simp only [putAll, Act.put, List.setIfInBounds_toArray, List.set_cons_zero, List.set_cons_succ]) (hCont (v4, v5) _ ⟨hHeld, MadeS.two hv5 hb5 hv4 hb4⟩)
      rintro ⟨v4, v5⟩ w5 ⟨hHeld, hMade⟩
      obtain ⟨A5, c5, rfl⟩ := Kd.R_slice hMade.lit
      have HMD := Aside0.mk hMade
      clear hMade
      refine norm_ (a' := ?_) ?_ ?_
      rotate_left
      · simp only [putAll, Act.put, List.setIfInBounds_toArray, List.set_cons_zero, List.set_cons_succ]
        rfl
      refine one_ (i := 9) (N := some 47) #[true, true, true, true, true, true, true, true, true, true, false, false] rfl rfl (one_of HT_.out (by kernel_rfl)) (by decide) (fun K hK => ?_)
      refine Kd.R_append_rows_step (Kd.int .u8) (w0 := W1) W1.heap.size (by rfl) (.tmp 41) (.tmp 46) 34 5 (.int .u8 0) 1 rfl Try.underlying34 info5 rfl (by decide) (by omega) v4 (up rw_) [b2i x] _ _ _ (fun _ => True) (fun _ => False) rfl rfl HMD.out.row (Kd.R_reads' HMD.out.lit).2.2 (fun _ _ h => h) (fun _ h => h.elim) (fun _ _ => trivial) HMD.out.below HMD.out.below.size (by have h1 := HL1.out; have h2 := HRL.out; simp only [up_length, List.length_singleton, Nat.mul_one]; omega) ?_
      intro v6 w6 hR6 hB6 hG6 hO6
      rw [show up rw_ ++ [b2i x] = up (rw_ ++ [x]) by rw [up_append]; rfl] at hR6
      obtain ⟨A6, c6, rfl⟩ := Kd.R_slice hR6
      generalize hn6 : (up (rw_ ++ [x])).length = n6 at hR6
      have HR6 := Aside0.mk hR6
      have HB6 := Aside0.mk hB6
      have hxg6 := (hB6.cell HGW.out).trans hxg
      have hfg6 := (hB6.frozen HGW.out).trans hfg
      clear hR6 hB6 hG6 hO6 hn6
      refine hK.out _ _ ((HB6.out.cell HLW.out).trans HH0.out) (fun hHeld => ?_)
      clear hK K
      refine norm_ (a' := ?_) ?_ ?_
      rotate_left
      · show Act.put _ (some 47) _ = _
        simp only [Act.put, List.setIfInBounds_toArray, List.set_cons_zero, List.set_cons_succ, i64_w, i32_w]
        rfl
      refine pure_ (i := 10) (N := some 48) (v := ?_) (a' := ?_) #[true, true, true, true, true, true, true, true, true, true, true, false] rfl rfl (any_of HT_.out (by kernel_rfl)) (fun _ _ _ h => h) (Or.inl ⟨by rfl, ?_⟩) ?_ ?_
      rotate_left
      · intro w'
        go_simp
        with_reducible rfl
      rotate_left
      · simp only [Act.put, List.setIfInBounds_toArray, List.set_cons_zero, List.set_cons_succ, i64_w, i32_w]
        rfl
      refine last_ (i := 11) (N := none) #[true, true, true, true, true, true, true, true, true, true, true, true] rfl rfl (one_of HT_.out (by kernel_rfl)) (by decide) (fun K hK => ?_)
      refine skip_ (w1 := ?_) (by rfl) rfl ?_ ?_
      rotate_left
      · go_simp
        rfl
      refine hK.out _ _ ?_
      clear hK K
      refine done_ (done_of HT_.out (by kernel_rfl)) ?_
      have HSF := Aside0.mk (S_put_fresh HA1.out HB6.out HR6.out (HB1.out.size) HGW.out (i : Int) (by omega) (by omega))
      have HBF : Aside0 (Below w.heap.size w (w6.setCell ⟨gw, i, none⟩ (.slice A6 n6 c6))) := ⟨(HB1.out.trans (HB6.out.mono HB1.out.size)).setCell HGB.out _⟩
      have hsf := HSF.out
      rw [Int.toNat_natCast, set_up2, ← HWA.out, HW.out] at hsf
      have HSG := Aside0.mk hsf
      clear hsf HSF
      go_wp2
      go_roundw
      case rel => exact ⟨i + 1, by omega, by go_num, ⟨HSG.out, HBF.out⟩⟩
      case measure => simp [intOf]; omega
    · obtain rfl : i = M.length := by omega
      have hA := HA.out.1
      rw [wideUpto_all] at hA
      have HA1 := Aside0.mk hA
      have HBW := Aside0.mk HA.out.2
      clear hA HA
      have HWL := Aside0.mk (wideS_length M v)
      have HWR := Aside0.mk (wideS_rows (M := M) (v := v) HM.out)
      have hsm : solveM M v = if ((elimRun (wideS M v) (colsN M)).1.drop (elimRun (wideS M v) (colsN M)).2.1.length).all (fun r => r.getD (colsN M) 0 == 0) then some (solveUpto (elimRun (wideS M v) (colsN M)).1 (elimRun (wideS M v) (colsN M)).2.1 (colsN M) (elimRun (wideS M v) (colsN M)).2.1.length) else none := rfl
      have HSM := Aside0.mk hsm
      clear hsm
      have HU3 := Aside0.mk (show M.length = (up2 (wideS M v)).length by rw [up2_length, wideS_length])
      have hrd := Kd.S_reads' HA1.out
      have HRD := Aside0.mk (show Kd.C (Kd.slice 5 (Kd.int .u8)) wr A3 M.length (up2 (wideS M v)) by rw [HU3.out]; exact hrd.2.2)
      have HRC := Aside0.mk (show M.length ≤ c3 by have := hrd.2.1; omega)
      have H0 := Aside0.mk (show wideS M v = [] → colsN M = 0 from fun h => colsN_of_nil (List.length_eq_zero_iff.1 (by rw [← wideS_length M v, h]; rfl)))
      clear hrd
      go_wp2_with (first | (go_at_call 62; (with_reducible refine (eliminate_calls' _ _ (wideS M v) (colsN M) (colsN M + 1) _ HU3.out HRD.out HRC.out HWR.out (by omega) (by have := HL1.out; omega) (by rw [HWL.out]; exact HL2.out) H0.out).mono ?_); rintro e w3 ⟨gx, rfl, hE, hB3⟩; have HE := Aside0.mk hE; have HB3 := Aside0.mk hB3; clear hE hB3))
      clear hb64 hul HRD HRC HWR H0 HU3
      have hs : w.heap.size ≤ wr.heap.size := HBW.out.size
      have HBX := Aside0.mk (HBW.out.trans (HB3.out.mono hs))
      generalize hE0 : elimRun (wideS M v) (colsN M) = E at HE HSM
      have HEE := Aside0.mk hE0
      have HEL := Aside0.mk (show E.1.length = M.length by rw [← hE0, elimRun_length, HWL.out])
      have HER := Aside0.mk (show ∀ r ∈ E.1, r.length = colsN M + 1 by rw [← hE0]; exact elimRun_rows (wideS_rows HM.out) _)
      have HEPL := Aside0.mk (show ∀ p ∈ E.2.1, p < colsN M by rw [← hE0]; exact elimRun_pivlt _ _)
      have HEP := Aside0.mk (show E.2.1.length ≤ E.1.length by rw [HEL.out, ← HWL.out, ← hE0]; exact elimRun_piv _ _)
      clear hE0
      obtain ⟨vr, vp, hg, hS, hP⟩ := HE.out.out
      obtain ⟨A4, c4, rfl⟩ := Kd.S_slice hS
      obtain ⟨A5, c5, rfl⟩ := Kd.R_slice hP
      rw [show (natInts E.2.1).length = E.2.1.length from List.length_map _] at hg hP
      rw [up2_length] at hg hS
      have hx0 : w3.cell? ⟨gx, 0, none⟩ = some (.slice A4 E.1.length c4) := by rw [blk_cell hg]; rfl
      have hx1 : w3.cell? ⟨gx, 1, none⟩ = some (.slice A5 E.2.1.length c5) := by rw [blk_cell hg]; rfl
      have HGX := Aside0.mk hg
      have HSX := Aside0.mk (Kd.S_lower hS hs)
      have HPX := Aside0.mk (Kd.R_lower hP hs)
      have hcx := (Kd.S_reads' hS).2.1
      have hpx := HEP.out
      clear hg hS hP HE hs HB3 HBW HA1
      go_quiet (fail)
      replace HGX : Aside0 ((w3.drewN nq).heap[gx]? = _) := HGX
      replace HSX := Aside0.mk (Kd.S_drewN HSX.out nq)
      replace HPX := Aside0.mk (Kd.R_below HPX.out (pw_below_drewN (Below.refl _ _) nq))
      replace HBX := Aside0.mk (pw_below_drewN HBX.out nq)
      replace hx0 : (w3.drewN nq).cell? ⟨gx, 0, none⟩ = some (.slice A4 E.1.length c4) := hx0
      replace hx1 : (w3.drewN nq).cell? ⟨gx, 1, none⟩ = some (.slice A5 E.2.1.length c5) := hx1
      generalize (w3.drewN nq) = W at HGX HSX HPX HBX hx0 hx1 ⊢
      have HGXL := Aside0.mk (blk_lt HGX.out)
      clear w3
      by_cases hcp : c4 = E.2.1.length
      · subst hcp
        go_wp2
        go_loop [12, 64] (fun _ v64 => ∃ j : Nat, j ≤ E.1.length - E.2.1.length ∧ v64 = .int .i64 (j : Int) ∧ Aside0 (∀ a, a < j → ((E.1.drop E.2.1.length).getD a []).getD (colsN M) 0 = 0)) (fun _ v64 => (E.1.length - E.2.1.length) - (intOf v64).toNat)
        case atStart => exact ⟨0, by omega, rfl, ⟨fun a ha => absurd ha (by omega)⟩⟩
        case round =>
        obtain ⟨j, hj, rfl, HA⟩ := hrel
        have hel64 : E.1.length ≤ 64 := by rw [HEL.out]; exact HL2.out
        by_cases hlt : j < E.1.length - E.2.1.length
        · skip
          exact absurd hlt (by have := (Kd.S_reads' HSX.out).2.1; omega)
        · have HYES := Aside0.mk (show solveM M v = some (solveUpto E.1 E.2.1 (colsN M) E.2.1.length) by
            rw [HSM.out, if_pos]
            rw [List.all_eq_true]
            intro r hr
            obtain ⟨a, ha, rfl⟩ := List.getElem_of_mem hr
            have := HA.out a (by rw [List.length_drop] at ha; omega)
            have hg : (E.1.drop E.2.1.length).getD a [] = (E.1.drop E.2.1.length)[a] := by rw [List.getD_eq_getElem?_getD, List.getElem?_eq_getElem ha]; rfl
            rw [hg] at this
            rw [beq_iff_eq]
            exact this)
          clear HSM HA
          have hcm : colsN M ≤ 64 := HL1.out
          go_wp2_with (first | ((with_reducible refine gate_dst (N := 75) rfl ?_); refine Kd.R_make (Kd.int .u8) W.heap.size 5 rfl (N := 75) rfl 34 _ _ rfl (colsN M : Int) rfl rfl Try.underlying34 (.int .u8 0) 1 info5 rfl (by decide) (by omega) 0 (ok := fun _ => True) (okp := fun _ => True) rfl (fun _ hk => hk) trivial (Int.natCast_nonneg _) (by rw [Int.toNat_natCast]; omega) (Below.refl _ _) (Nat.le_refl _) ?_; intro v7 w7 hs7 hb7 hg7 hn7; rw [Int.toNat_natCast, up_zeros] at hs7; have HS7 := Aside0.mk hs7; have HB7 := Aside0.mk hb7; clear hs7 hb7 hg7 hn7; have hx17 := (HB7.out.cell HGXL.out).trans hx1))
          obtain ⟨A7, c7, e7⟩ := Kd.R_slice HS7.out
          rw [up_length, List.length_replicate] at e7
          subst e7
          clear hx1 hx17
          go_loopw [14, 15, 81] (fun _ _ v81 wr => ∃ k : Nat, k ≤ E.2.1.length ∧ v81 = .int .i64 (k : Int) ∧ Aside0 (Kd.R (Kd.int .u8) 5 wr W.heap.size (fun _ => True) (.slice A7 (colsN M) c7) (up (solveUpto E.1 E.2.1 (colsN M) k)) ∧ Below W.heap.size W wr)) (fun _ _ v81 _ => E.2.1.length - (intOf v81).toNat)
          case atStart => exact ⟨0, by omega, rfl, ⟨HS7.out, HB7.out⟩⟩
          case round =>
          obtain ⟨k, hk, rfl, HA⟩ := hrel
          by_cases hlt2 : k < E.2.1.length
          · have hb := HA.out.2
            obtain ⟨ad5, e, hx5⟩ := Kd.at_int (Kd.R_reads' (Kd.R_below HPX.out hb)).2.2 (k : Int) (by omega) (by rw [natInts, List.length_map]; omega)
            cases e
            rw [Int.toNat_natCast, rd_natInts] at hx5
            have hq : E.2.1.getD k 0 < colsN M := HEPL.out _ (by rw [List.getD_eq_getElem?_getD, List.getElem?_eq_getElem hlt2]; exact List.getElem_mem hlt2)
            have hst := solveUpto_succ E.1 E.2.1 (colsN M) k
            generalize hqq : E.2.1.getD k 0 = q at hx5 hq hst
            have hS := Kd.S_below HSX.out hb
            obtain ⟨ad4, _, _, e, _, _, _⟩ := at_L1 (Kd.S_reads' hS).2.2 (k : Int) (by omega) (by rw [up2_length]; omega)
            cases e
            obtain ⟨gq, eq4⟩ := Kd.R_head (Kd.S_R hS)
            cases eq4
            obtain ⟨Ar, cor, hxr, hlr, hCr, _⟩ := S_slot hS k (by omega)
            rw [getD_up2] at hxr hlr hCr
            have hrr := HER.out _ (getD_mem' (l := E.1) (i := k) (by omega))
            generalize E.1.getD k [] = rr at hxr hlr hCr hrr hst
            obtain ⟨adr, e, hxn⟩ := Kd.at_int hCr (colsN M : Int) (by omega) (by rw [up_length]; omega)
            subst e
            rw [Int.toNat_natCast, getD_up] at hxn
            generalize hxx : rr.getD (colsN M) 0 = x at hxn hst
            have hx07 := (hb.cell HGXL.out).trans hx0
            obtain ⟨go, co, eo, gb, gl, _, _⟩ := Kd.R_form HA.out.1 (by rw [up_length, solveUpto_length]; omega)
            injection eo with ea en ec
            subst ea
            clear en ec
            obtain ⟨hxo, hfo⟩ := Kd.R_celln 0 HA.out.1 (q : Int) (by omega) (by omega)
            have hpt := Kd.R_putg HA.out.1 (q : Int) (b2i x)
            rw [Int.toNat_natCast, set_up, ← hst] at hpt
            rw [Int.toNat_natCast] at hxo hfo
            have HPT := Aside0.mk hpt.1
            have HBT : Aside0 (Below W.heap.size W (wr.setCell ⟨go, q, none⟩ (.int .u8 (b2i x)))) := ⟨hb.setCell gb _⟩
            have hlrr := hrr
            have n0 : (0 : Int) ≤ (colsN M : Int) := by omega
            have n1 : (colsN M : Int) < ((up rr).length : Int) := by rw [up_length]; omega
            have q0 : (0 : Int) ≤ (q : Int) := by omega
            have q1 : (q : Int) < (colsN M : Int) := by omega
            have k0 : (0 : Int) ≤ (k : Int) := by omega
            have k1 : (k : Int) < (E.1.length : Int) := by omega
            have k2 : (k : Int) < (E.2.1.length : Int) := by omega
            clear hst hqq hS hlr hCr hrr hxx hpt hb hlrr
            go_wp2
            go_roundw
            case rel => exact ⟨k + 1, by omega, by go_num, ⟨HPT.out, HBT.out⟩⟩
            case measure => simp [intOf]; omega
          · obtain rfl : k = E.2.1.length := by omega
            go_wp2
            go_ret2
            refine ⟨.slice A7 (colsN M) c7, ?_, ?_, HBX.out.trans (HA.out.2.mono HBX.out.size)⟩
            · rw [HYES.out]; rfl
            · rw [HYES.out]; exact Kd.R_lower HA.out.1 HBX.out.size
      · obtain ⟨gr, rfl⟩ : ∃ gr, A4 = some ⟨gr, 0, none⟩ := by
          obtain ⟨inner, ho⟩ := Kd.S_own HSX.out
          rcases ho.2 with ⟨e, _⟩ | ⟨g, cap, cur, e, _⟩
          · injection e with e1 e2 e3
            omega
          · injection e with e1 e2 e3
            exact ⟨g, e1⟩
        have hpl : E.2.1.length ≤ c4 := by omega
        go_wp2
        go_loop [12, 64] (fun _ v64 => ∃ j : Nat, j ≤ E.1.length - E.2.1.length ∧ v64 = .int .i64 (j : Int) ∧ Aside0 (∀ a, a < j → ((E.1.drop E.2.1.length).getD a []).getD (colsN M) 0 = 0)) (fun _ v64 => (E.1.length - E.2.1.length) - (intOf v64).toNat)
        case atStart => exact ⟨0, by omega, rfl, ⟨fun a ha => absurd ha (by omega)⟩⟩
        case round =>
        obtain ⟨j, hj, rfl, HA⟩ := hrel
        have hel64 : E.1.length ≤ 64 := by rw [HEL.out]; exact HL2.out
        by_cases hlt : j < E.1.length - E.2.1.length
        · skip
          obtain ⟨Ar, cor, hxr, hlr, hCr, _⟩ := S_slot HSX.out (E.2.1.length + j) (by omega)
          rw [getD_up2] at hxr hlr hCr
          have hrr := HER.out _ (getD_mem' (l := E.1) (i := E.2.1.length + j) (by omega))
          have hdr : (E.1.drop E.2.1.length).getD j [] = E.1.getD (E.2.1.length + j) [] := by simp [List.getD_eq_getElem?_getD, List.getElem?_drop]
          generalize E.1.getD (E.2.1.length + j) [] = rr at hxr hlr hCr hrr hdr
          obtain ⟨adr, e, hxn⟩ := Kd.at_int hCr (colsN M : Int) (by omega) (by rw [up_length]; omega)
          subst e
          rw [Int.toNat_natCast, getD_up] at hxn
          generalize hxx : rr.getD (colsN M) 0 = x at hxn
          have HXX := Aside0.mk (show ((E.1.drop E.2.1.length).getD j []).getD (colsN M) 0 = x by rw [hdr, hxx])
          have HRR := Aside0.mk hrr
          have n0 : (0 : Int) ≤ (colsN M : Int) := by omega
          have n1 : (colsN M : Int) < ((up rr).length : Int) := by rw [up_length]; omega
          clear hlr hCr hrr hdr hxx
          by_cases hx0' : x = 0
          · have hz : (b2i x != 0) = false := by rw [bne_eq_false_iff_eq, hx0']; rfl
            have HZ := Aside0.mk hx0'
            clear hx0'
            go_wp2
            go_round
            case rel =>
              refine ⟨j + 1, by omega, by go_num, ⟨fun a ha => ?_⟩⟩
              by_cases haj : a = j
              · subst haj
                rw [HXX.out, HZ.out]
              · exact HA.out a (by omega)
            case measure => simp [intOf]; omega
          · have hz : (b2i x != 0) = true := by rw [bne_iff_ne]; exact fun e => hx0' (b2i_eq_zero.1 e)
            have HNO := Aside0.mk (show solveM M v = none by
              rw [HSM.out, if_neg]
              intro hall
              rw [List.all_eq_true] at hall
              have hm := hall _ (getD_mem' (l := E.1.drop E.2.1.length) (i := j) (by rw [List.length_drop]; omega))
              rw [HXX.out, beq_iff_eq] at hm
              exact hx0' hm)
            clear hx0'
            go_wp2
            go_ret2
            refine ⟨.slice none 0 0, ?_, ?_, HBX.out⟩
            · rw [HNO.out]; rfl
            · rw [HNO.out]; exact Kd.R_nil _ _ _ _ _
        · have HYES := Aside0.mk (show solveM M v = some (solveUpto E.1 E.2.1 (colsN M) E.2.1.length) by
            rw [HSM.out, if_pos]
            rw [List.all_eq_true]
            intro r hr
            obtain ⟨a, ha, rfl⟩ := List.getElem_of_mem hr
            have := HA.out a (by rw [List.length_drop] at ha; omega)
            have hg : (E.1.drop E.2.1.length).getD a [] = (E.1.drop E.2.1.length)[a] := by rw [List.getD_eq_getElem?_getD, List.getElem?_eq_getElem ha]; rfl
            rw [hg] at this
            rw [beq_iff_eq]
            exact this)
          clear HSM HA
          have hcm : colsN M ≤ 64 := HL1.out
          go_wp2_with (first | ((with_reducible refine gate_dst (N := 75) rfl ?_); refine Kd.R_make (Kd.int .u8) W.heap.size 5 rfl (N := 75) rfl 34 _ _ rfl (colsN M : Int) rfl rfl Try.underlying34 (.int .u8 0) 1 info5 rfl (by decide) (by omega) 0 (ok := fun _ => True) (okp := fun _ => True) rfl (fun _ hk => hk) trivial (Int.natCast_nonneg _) (by rw [Int.toNat_natCast]; omega) (Below.refl _ _) (Nat.le_refl _) ?_; intro v7 w7 hs7 hb7 hg7 hn7; rw [Int.toNat_natCast, up_zeros] at hs7; have HS7 := Aside0.mk hs7; have HB7 := Aside0.mk hb7; clear hs7 hb7 hg7 hn7; have hx17 := (HB7.out.cell HGXL.out).trans hx1))
          obtain ⟨A7, c7, e7⟩ := Kd.R_slice HS7.out
          rw [up_length, List.length_replicate] at e7
          subst e7
          clear hx1 hx17
          go_loopw [14, 15, 81] (fun _ _ v81 wr => ∃ k : Nat, k ≤ E.2.1.length ∧ v81 = .int .i64 (k : Int) ∧ Aside0 (Kd.R (Kd.int .u8) 5 wr W.heap.size (fun _ => True) (.slice A7 (colsN M) c7) (up (solveUpto E.1 E.2.1 (colsN M) k)) ∧ Below W.heap.size W wr)) (fun _ _ v81 _ => E.2.1.length - (intOf v81).toNat)
          case atStart => exact ⟨0, by omega, rfl, ⟨HS7.out, HB7.out⟩⟩
          case round =>
          obtain ⟨k, hk, rfl, HA⟩ := hrel
          by_cases hlt2 : k < E.2.1.length
          · have hb := HA.out.2
            obtain ⟨ad5, e, hx5⟩ := Kd.at_int (Kd.R_reads' (Kd.R_below HPX.out hb)).2.2 (k : Int) (by omega) (by rw [natInts, List.length_map]; omega)
            cases e
            rw [Int.toNat_natCast, rd_natInts] at hx5
            have hq : E.2.1.getD k 0 < colsN M := HEPL.out _ (by rw [List.getD_eq_getElem?_getD, List.getElem?_eq_getElem hlt2]; exact List.getElem_mem hlt2)
            have hst := solveUpto_succ E.1 E.2.1 (colsN M) k
            generalize hqq : E.2.1.getD k 0 = q at hx5 hq hst
            have hS := Kd.S_below HSX.out hb
            obtain ⟨ad4, _, _, e, _, _, _⟩ := at_L1 (Kd.S_reads' hS).2.2 (k : Int) (by omega) (by rw [up2_length]; omega)
            cases e
            obtain ⟨gq, eq4⟩ := Kd.R_head (Kd.S_R hS)
            cases eq4
            obtain ⟨Ar, cor, hxr, hlr, hCr, _⟩ := S_slot hS k (by omega)
            rw [getD_up2] at hxr hlr hCr
            have hrr := HER.out _ (getD_mem' (l := E.1) (i := k) (by omega))
            generalize E.1.getD k [] = rr at hxr hlr hCr hrr hst
            obtain ⟨adr, e, hxn⟩ := Kd.at_int hCr (colsN M : Int) (by omega) (by rw [up_length]; omega)
            subst e
            rw [Int.toNat_natCast, getD_up] at hxn
            generalize hxx : rr.getD (colsN M) 0 = x at hxn hst
            have hx07 := (hb.cell HGXL.out).trans hx0
            obtain ⟨go, co, eo, gb, gl, _, _⟩ := Kd.R_form HA.out.1 (by rw [up_length, solveUpto_length]; omega)
            injection eo with ea en ec
            subst ea
            clear en ec
            obtain ⟨hxo, hfo⟩ := Kd.R_celln 0 HA.out.1 (q : Int) (by omega) (by omega)
            have hpt := Kd.R_putg HA.out.1 (q : Int) (b2i x)
            rw [Int.toNat_natCast, set_up, ← hst] at hpt
            rw [Int.toNat_natCast] at hxo hfo
            have HPT := Aside0.mk hpt.1
            have HBT : Aside0 (Below W.heap.size W (wr.setCell ⟨go, q, none⟩ (.int .u8 (b2i x)))) := ⟨hb.setCell gb _⟩
            have hlrr := hrr
            have n0 : (0 : Int) ≤ (colsN M : Int) := by omega
            have n1 : (colsN M : Int) < ((up rr).length : Int) := by rw [up_length]; omega
            have q0 : (0 : Int) ≤ (q : Int) := by omega
            have q1 : (q : Int) < (colsN M : Int) := by omega
            have k0 : (0 : Int) ≤ (k : Int) := by omega
            have k1 : (k : Int) < (E.1.length : Int) := by omega
            have k2 : (k : Int) < (E.2.1.length : Int) := by omega
            clear hst hqq hS hlr hCr hrr hxx hpt hb hlrr
            go_wp2
            go_roundw
            case rel => exact ⟨k + 1, by omega, by go_num, ⟨HPT.out, HBT.out⟩⟩
            case measure => simp [intOf]; omega
          · obtain rfl : k = E.2.1.length := by omega
            go_wp2
            go_ret2
            refine ⟨.slice A7 (colsN M) c7, ?_, ?_, HBX.out.trans (HA.out.2.mono HBX.out.size)⟩
            · rw [HYES.out]; rfl
            · rw [HYES.out]; exact Kd.R_lower HA.out.1 HBX.out.size
set_option maxRecDepth 100000 in
set_option maxHeartbeats 2000000 in
theorem solve_bad (A0 A1 : Option Addr) (c0 c1 : Nat) (l0 : List (List Int)) (l1 : List Int) (w : World) (hr0 : Kd.C (Kd.slice 5 (Kd.int .u8)) w A0 l0.length l0) (hc0 : l0.length ≤ c0) (hb : validB l0 = false ∨ l1.length ≠ l0.length) :
    Calls Try.prog 30 #[.slice A0 l0.length c0, .slice A1 l1.length c1] w fun e w' => e = .returned (.tuple #[.slice none 0 0, .int .i64 1]) ∧ Below w.heap.size w w' := by
  have HR0 := Aside0.mk hr0
  have HC0 := Aside0.mk hc0
  clear hr0 hc0
  cases hv : validB l0 with
  | false =>
    have HV := Aside0.mk (show matrix_Valid.f l0 = some false by rw [matrix_Valid.f, hv])
    clear hv hb
    go_enter Try.func30, Try.ntmps30
    go_wp2_with (first | (go_at_call 17; (with_reducible refine (matrix_Valid.calls _ _ l0 _ _ HR0.out HC0.out HV.out).mono ?_); rintro e w1 ⟨rfl, hb⟩; have HB := Aside0.mk hb; clear hb))
    go_ret2
    exact ⟨rfl, HB.out⟩
  | true =>
    have HV := Aside0.mk (show matrix_Valid.f l0 = some true by rw [matrix_Valid.f, hv])
    have hne : ((l1.length : Int) != (l0.length : Int)) = true := by
      rw [bne_iff_ne]
      rcases hb with h | h
      · rw [hv] at h; cases h
      · omega
    clear hv hb
    go_enter Try.func30, Try.ntmps30
    go_wp2_with (first | (go_at_call 17; (with_reducible refine (matrix_Valid.calls _ _ l0 _ _ HR0.out HC0.out HV.out).mono ?_); rintro e w1 ⟨rfl, hb⟩; have HB := Aside0.mk hb; clear hb))
    go_ret2
    exact ⟨rfl, HB.out⟩
def matrix_Solve.f (l0 : List (List Int)) (l1 : List Int) : Option (List Int × Int) :=
  if validB l0 = true ∧ l1.length = l0.length then (if bytes2 l0 = true ∧ l1.all isB = true then some (solveVal (solveM (toB2 l0) (l1.map toB)), solveCode (solveM (toB2 l0) (l1.map toB))) else none) else some ([], 1)
theorem map_toB_up (v : List B) : (up v).map toB = v := by
  unfold up
  rw [List.map_map]
  conv => rhs; rw [← List.map_id v]
  apply List.map_congr_left
  intro x _
  exact toB_b2i x
theorem matrix_Solve.calls (A0 : Option Addr) (c0 : Nat) (l0 : List (List Int)) (A1 : Option Addr) (c1 : Nat) (l1 : List Int) (r1 : List Int) (r2 : Int) (w : World) (hr0 : Kd.C (Kd.slice 5 (Kd.int .u8)) w A0 l0.length l0) (hc0 : l0.length ≤ c0) (hr1 : Kd.C (Kd.int .u8) w A1 l1.length l1) (hc1 : l1.length ≤ c1) (h : matrix_Solve.f l0 l1 = some (r1, r2)) :
    Calls Try.prog 30 #[.slice A0 l0.length c0, .slice A1 l1.length c1] w fun e w' => ∃ v0_ : Value, e = .returned (.tuple #[v0_, .int .i64 r2]) ∧ Kd.R (Kd.int .u8) 5 w' w.heap.size (fun _ => True) v0_ r1 ∧ Below w.heap.size w w' := by
  unfold matrix_Solve.f at h
  by_cases hg : validB l0 = true ∧ l1.length = l0.length
  · rw [if_pos hg] at h
    split at h
    · rename_i hb
      obtain ⟨M, rfl⟩ := exists_bytes2 hb.1
      obtain ⟨v, rfl⟩ := exists_up (fun x hx => List.all_eq_true.1 hb.2 x hx)
      rw [toB2_up2, map_toB_up] at h
      simp only [Option.some.injEq, Prod.mk.injEq] at h
      obtain ⟨rfl, rfl⟩ := h
      exact solve_good A0 A1 c0 c1 M v w hr0 hc0 hr1 hc1 (by rw [← validB_up2]; exact hg.1) (by have := hg.2; rwa [up_length, up2_length] at this)
    · cases h
  · rw [if_neg hg] at h
    simp only [Option.some.injEq, Prod.mk.injEq] at h
    obtain ⟨rfl, rfl⟩ := h
    refine (solve_bad A0 A1 c0 c1 l0 l1 w hr0 hc0 ?_).mono ?_
    · by_cases hv : validB l0 = true
      · exact .inr fun e => hg ⟨hv, e⟩
      · exact .inl (by simpa using hv)
    · rintro e w' ⟨rfl, hb⟩
      exact ⟨_, rfl, Kd.R_nil _ _ _ _ _, hb⟩
end Go.Proofs.Ytpkghpljgjlmjaa.K
