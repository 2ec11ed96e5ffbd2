/- Contracts of the reference's SpanOf and Identity. -/
import Derived.Test.YtjcgnpnnhejfhaaSpanS
namespace Go.Proofs.Ytjcgnpnnhejfhaa
open Go.RowKit
set_option linter.unusedVariables false
set_option maxRecDepth 20000

theorem insV_span {k : Nat} {R : List (List Int)} {v : List Int} (hk : k ≤ 40) (hR : RM k R) (hl : R.length ≤ 40) : insV (k : Int) R v = if validV v && decide (v.length = k) then insM R v else R := by
  have hB : validB (k : Int) R = true := validB_true.2 ⟨by omega, by omega, by rw [show ((k : Int)).toNat = k by omega]; exact hR, hl⟩
  unfold insV insOk cvB fitsB
  rw [hB, show decide ((v.length : Int) = (k : Int)) = decide (v.length = k) from decide_eq_decide.2 (by omega)]
  cases h : validV v && decide (v.length = k)
  · simp
  · simp only [Bool.true_and, if_true]
    rw [Bool.and_eq_true, decide_eq_true_eq] at h
    have hv := (validV_true.1 h.1).1
    by_cases hlt : ld (redV R v) < (redV R v).length
    · rw [leadI_ld, if_pos hlt]
      rw [if_pos (by simp)]
      have hVR : VR k (R ++ [v]) := fun xs hx => by
        rcases List.mem_append.1 hx with hx | hx
        · exact hR.1 xs hx
        · simp at hx; subst hx; exact h
      obtain ⟨g1, g2, g3⟩ := gj_red (k := k) hk hVR
      obtain ⟨i1, i2⟩ := insM_ok hk hR hv h.2
      rw [show ((k : Int)).toNat = k by omega]
      exact g1.eq i1 ((g3 (Nat.le_refl _)).symm.trans i2)
    · rw [leadI_ld, if_neg hlt, insM_no hlt]
      simp

theorem insV_step {vs : List (List Int)} {k j : Nat} {v : List Int} (hk : k ≤ 40) (hx : vs[j]? = some v) : insV (k : Int) (spanTo vs k j) v = spanTo vs k (j + 1) := by
  have := spanTo_RM (vs := vs) hk j
  rw [insV_span hk this.1 (by omega), spanTo, getD_some hx]

/-- A box that holds a basis. -/
def SpB (w1 : World) (n : Int) (R : List (List Int)) (w : World) : Prop :=
  ∃ a c, Ext w1 w ∧ w.cell? ⟨w1.heap.size, 0, none⟩ = some (.int .i64 n) ∧ w.cell? ⟨w1.heap.size, 1, none⟩ = some (.slice a R.length c) ∧ w.frozen? ⟨w1.heap.size, 0, none⟩ = false ∧ w.frozen? ⟨w1.heap.size, 1, none⟩ = false ∧ OM w (w1.heap.size + 1) w.heap.size a c R
theorem SpB.put {w1 W : World} {n : Int} {R : List (List Int)} {a : Option Addr} {c : Nat} {v0 v1 : Value} (E : Ext w1 W) (q0 : W.cell? ⟨w1.heap.size, 0, none⟩ = some v0) (q1 : W.cell? ⟨w1.heap.size, 1, none⟩ = some v1)
    (g0 : W.frozen? ⟨w1.heap.size, 0, none⟩ = false) (g1 : W.frozen? ⟨w1.heap.size, 1, none⟩ = false) (o : OM W (w1.heap.size + 1) W.heap.size a c R) :
    SpB w1 n R ((W.setCell ⟨w1.heap.size, 0, none⟩ (.int .i64 n)).setCell ⟨w1.heap.size, 1, none⟩ (.slice a R.length c)) := by
  refine ⟨a, c, (E.setCell (p := ⟨w1.heap.size, 0, none⟩) (Nat.le_refl _) _).setCell (p := ⟨w1.heap.size, 1, none⟩) (Nat.le_refl _) _, ?_, ?_, by simp [g0], by simp [g1], ?_⟩
  · exact (World.cell?_setCell_other _ _ _ _ (by simp)).trans (World.cell?_setCell_same _ _ _ q0)
  · exact World.cell?_setCell_same _ _ _ ((World.cell?_setCell_other _ _ _ _ (by simp)).trans q1)
  · exact ((o.setCell (p := ⟨w1.heap.size, 0, none⟩) (Nat.lt_succ_self _) _).setCell (p := ⟨w1.heap.size, 1, none⟩) (Nat.lt_succ_self _) _).mono (Nat.le_refl _) (by simp)
theorem SpB.ext {w1 w w' : World} {n : Int} {R : List (List Int)} (h : SpB w1 n R w) (he : Ext w w') : SpB w1 n R w' := by
  obtain ⟨a, c, h1, h2, h3, h4, h5, h6⟩ := h
  have z := World.block_lt_of_cell? _ _ h3
  exact ⟨a, c, h1.trans he, he.cell h2, he.cell h3, (he.look.2 _ 0 z).trans h4, (he.look.2 _ 1 z).trans h5, (h6.ext he).mono (Nat.le_refl _) he.size_le⟩

set_option maxHeartbeats 4000000 in
set_option maxRecDepth 100000 in
theorem specSpanOf_ok (a : Option Addr) (c : Nat) (vs : List (List Int)) (n : Int) (w : World) (h : MatR w a vs) (hl : vs.length ≤ 1048576) (hr : ∀ xs ∈ vs, xs.length ≤ 1048576) :
    Calls Try.prog 24 #[.slice a vs.length c, .int .i64 n] w (NewB w (basisW n) (spanR vs n)) := by
  have HR := Lib.hid hr
  clear hr
  cases h1 : inR n 0 40
  · have HB : Hid (basisW n = 0) := by unfold basisW; rw [h1]; exact Lib.hid rfl
    have HS := Lib.hid (spanR_no (vs := vs) h1)
    have CB := specNewBasis0_ok n (w.alloc (.cells #[.int .i64 0, .slice none 0 0] 30))
    rw [HB.out] at CB
    have HCB := Lib.hid CB
    clear CB
    go_enter Try.func24, Try.ntmps24
    go_wp2_with fail
    (with_reducible refine HCB.out.mono ?_)
    rintro e w1 ⟨rfl, e1⟩
    have E1 := ((Ext.refl w).alloc (.cells #[.int .i64 0, .slice none 0 0] 30)).trans e1
    have r0 := e1.cell (p := ⟨w.heap.size, 0, none⟩) (v := .int .i64 0) (by simp)
    have r1 := e1.cell (p := ⟨w.heap.size, 1, none⟩) (v := .slice none 0 0) (by simp)
    have zres : w.heap.size < w1.heap.size := World.block_lt_of_cell? _ _ r0
    have f0 : w1.frozen? ⟨w.heap.size, 0, none⟩ = false := (e1.look.2 w.heap.size 0 (by simp)).trans (by simp)
    have f1 : w1.frozen? ⟨w.heap.size, 1, none⟩ = false := (e1.look.2 w.heap.size 1 (by simp)).trans (by simp)
    obtain ⟨W0, hW0⟩ : ∃ W0, Hid (W0 = w1.alloc (.cells #[.int .i64 0, .slice none 0 0] 30)) := ⟨_, rfl⟩
    have E2 : Ext w1 W0 := by rw [hW0.out]; exact (Ext.refl w1).alloc _
    have t0 : W0.cell? ⟨w1.heap.size, 0, none⟩ = some (.int .i64 0) := by rw [hW0.out]; simp
    have t1 : W0.cell? ⟨w1.heap.size, 1, none⟩ = some (.slice none 0 0) := by rw [hW0.out]; simp
    have x0 := E2.cell r0
    have x1 := E2.cell r1
    have y0 := (E2.look.2 w.heap.size 0 zres).trans f0
    have y1 := (E2.look.2 w.heap.size 1 zres).trans f1
    have HF : Hid (∀ W : World, W = (W0.setCell ⟨w.heap.size, 0, none⟩ (.int .i64 0)).setCell ⟨w.heap.size, 1, none⟩ (.slice none 0 0) → NewB w (basisW n) (spanR vs n) (.returned (bsV 0 none 0 [])) W) := fun W hW => by
      subst hW
      rw [HB.out, HS.out]
      exact ⟨none, 0, rfl, OM.nil _ _ _, ((E1.trans E2).setCell (p := ⟨w.heap.size, 0, none⟩) (Nat.le_refl _) _).setCell (p := ⟨w.heap.size, 1, none⟩) (Nat.le_refl _) _⟩
    clear E1 e1 HCB E2 r0 r1 f0 f1
    go_wp2_with fail
    go_loopw [6] (fun i wr => i = .int .i64 0 ∧ wr = W0) (fun i _ => 0)
    case atStart => exact ⟨rfl, hW0.out.symm⟩
    case round =>
      obtain ⟨rfl, rfl⟩ := hrel
      by_cases hlt : 0 < vs.length
      · go_wp2_with (go_at_call 94; (with_reducible refine (specInRange_ok _ _ _ _).mono ?_); rintro e w' ⟨rfl, rfl⟩; rw [h1])
        refine bodyPost_ret (v := bsV 0 none 0 []) (by simp only [results, Try.results24]; go_simp) rfl ?_
        exact HF.out _ rfl
      · go_wp2_with fail
        refine bodyPost_ret (v := bsV 0 none 0 []) (by simp only [results, Try.results24]; go_simp) rfl ?_
        exact HF.out _ rfl
  obtain ⟨n0, n1⟩ := inR_true.1 h1
  obtain ⟨m, rfl⟩ := Int.eq_ofNat_of_zero_le n0
  have HB : Hid (basisW (m : Int) = (m : Int)) := by unfold basisW; rw [h1]; exact Lib.hid rfl
  have HS := Lib.hid (spanR_yes (vs := vs) h1)
  have hm : m ≤ 40 := by omega
  have HSP := Lib.hid (spanTo_RM (vs := vs) hm)
  have CB := specNewBasis0_ok (m : Int) (w.alloc (.cells #[.int .i64 0, .slice none 0 0] 30))
  rw [HB.out] at CB
  have HCB := Lib.hid CB
  clear CB
  go_enter Try.func24, Try.ntmps24
  go_wp2_with fail
  (with_reducible refine HCB.out.mono ?_)
  rintro e w1 ⟨rfl, e1⟩
  have E1 := ((Ext.refl w).alloc (.cells #[.int .i64 0, .slice none 0 0] 30)).trans e1
  have r0 := e1.cell (p := ⟨w.heap.size, 0, none⟩) (v := .int .i64 0) (by simp)
  have r1 := e1.cell (p := ⟨w.heap.size, 1, none⟩) (v := .slice none 0 0) (by simp)
  have zres : w.heap.size < w1.heap.size := World.block_lt_of_cell? _ _ r0
  have f0 : w1.frozen? ⟨w.heap.size, 0, none⟩ = false := (e1.look.2 w.heap.size 0 (by simp)).trans (by simp)
  have f1 : w1.frozen? ⟨w.heap.size, 1, none⟩ = false := (e1.look.2 w.heap.size 1 (by simp)).trans (by simp)
  have B0 : SpB w1 (m : Nat) (spanTo vs m 0) (w1.alloc (.cells #[.int .i64 (m : Nat), .slice none 0 0] 30)) :=
    ⟨none, 0, (Ext.refl w1).alloc _, by simp, by simp [spanTo], by simp, by simp, OM.nil _ _ _⟩
  clear e1 HCB
  go_wp2_with fail
  go_loopw [6] (fun i wr => ∃ k : Nat, k ≤ vs.length ∧ i = .int .i64 k ∧ SpB w1 (m : Nat) (spanTo vs m k) wr) (fun i _ => vs.length - (intOf i).toNat)
  case atStart => exact ⟨0, Nat.zero_le _, rfl, B0⟩
  case round =>
    clear B0
    obtain ⟨k, hk, rfl, a2, c2, q1, q3, q4, q5, q5', q6⟩ := hrel
    by_cases hlt : k < vs.length
    · obtain ⟨b1, o1, ra, rc, xs, rfl, hb, hx, hc, hrow⟩ := (h.ext (E1.trans q1)).at_ hlt
      have hxm := HR.out xs (List.mem_of_getElem? hx.out)
      have HI := Lib.hid (insV_step hm hx.out)
      have HRK := HSP.out k
      obtain ⟨R, hR⟩ : ∃ R, Hid (R = spanTo vs m k) := ⟨_, rfl⟩
      rw [← hR.out] at q4 q6 HI HRK
      have hRl : R.length ≤ 40 := by omega
      have HRR : Hid (∀ xs ∈ R, xs.length ≤ 1048576) := fun xs hx => by have := (HRK.1.1 xs hx).2; omega
      have C1 : Hid (∀ W, Ext wr W → Calls Try.prog 95 #[bsV (m : Nat) a2 c2 R, .slice ra xs.length rc] W (NewBF W (m : Nat) (insV (m : Nat) R xs) (insOk (m : Nat) R xs))) := fun W hW => specInsertVector_ok (m : Nat) a2 c2 R ra rc xs W (q6.reads.ext hW) (hrow.ext hW) (by omega) HRR.out hxm
      rw [HI.out] at C1
      obtain ⟨R', hR'⟩ : ∃ R', Hid (R' = spanTo vs m (k + 1)) := ⟨_, rfl⟩
      rw [← hR'.out] at C1
      have X1 : Hid (Ext wr wr.drew) := (Ext.refl wr).drew
      have X2 : Hid (Ext wr (wr.alloc (.cells #[.int .i64 0, .slice none 0 0] 30)).drew) := ((Ext.refl wr).alloc _).drew
      have Y0 : Hid ((wr.alloc (.cells #[.int .i64 0, .slice none 0 0] 30)).drew.cell? ⟨wr.heap.size, 0, none⟩ = some (.int .i64 0)) := Lib.hid (by simp)
      have Y1 : Hid ((wr.alloc (.cells #[.int .i64 0, .slice none 0 0] 30)).drew.cell? ⟨wr.heap.size, 1, none⟩ = some (.slice none 0 0)) := Lib.hid (by simp)
      have F0 : Hid ((wr.alloc (.cells #[.int .i64 0, .slice none 0 0] 30)).drew.frozen? ⟨wr.heap.size, 0, none⟩ = false) := Lib.hid (by simp)
      have F1 : Hid ((wr.alloc (.cells #[.int .i64 0, .slice none 0 0] 30)).drew.frozen? ⟨wr.heap.size, 1, none⟩ = false) := Lib.hid (by simp)
      have ZS : Hid (wr.heap.size < (wr.alloc (.cells #[.int .i64 0, .slice none 0 0] 30)).drew.heap.size) := Lib.hid (by simp)
      have zq : w1.heap.size < wr.heap.size := World.block_lt_of_cell? _ _ q3
      clear HRK q6 hrow
      go_wp2_with (go_at_call 94; (with_reducible refine (specInRange_ok _ _ _ _).mono ?_); rintro e w' ⟨rfl, rfl⟩; rw [h1])
      go_region_held3 (fun w' => w'.cell? ⟨w1.heap.size, 0, none⟩ = some (.int .i64 (m : Nat)) ∧ w'.cell? ⟨w1.heap.size, 1, none⟩ = some (.slice a2 R.length c2) ∧ w'.cell? ⟨b1, o1 + k, none⟩ = some (.slice ra xs.length rc))
        (first | exact ⟨e4.cell q3, e4.cell q4, e4.cell hc⟩ | exact ⟨(e4.alloc _).cell q3, (e4.alloc _).cell q4, (e4.alloc _).cell hc⟩ | exact ⟨(e4s _ _).cell q3, (e4s _ _).cell q4, (e4s _ _).cell hc⟩ | exact ⟨((Ext.refl wr).alloc _).cell q3, ((Ext.refl wr).alloc _).cell q4, ((Ext.refl wr).alloc _).cell hc⟩ | go_keep)
        ((go_at_call 95; (with_reducible refine (C1.out _ (by first | exact X1.out | exact X2.out)).mono ?_); rintro e w4 ⟨a4, c4, rfl, o4, e4'⟩; have e4 : Ext wr w4 := (by first | exact X1.out.trans e4' | exact X2.out.trans e4'); have e4s : ∀ u v, Ext wr ((w4.setCell ⟨wr.heap.size, 0, none⟩ u).setCell ⟨wr.heap.size, 1, none⟩ v) := (fun u v => (e4.setCell (p := ⟨wr.heap.size, 0, none⟩) (Nat.le_refl _) u).setCell (p := ⟨wr.heap.size, 1, none⟩) (Nat.le_refl _) v); try (have x0 := e4'.cell Y0.out; have x1 := e4'.cell Y1.out; have y0 := (e4'.look.2 wr.heap.size 0 ZS.out).trans F0.out; have y1 := (e4'.look.2 wr.heap.size 1 ZS.out).trans F1.out)))
      all_goals (
        have z4 := e4.size_le
        have u0 := e4.cell q3
        have u1 := e4.cell q4
        have v0 := (e4.look.2 w1.heap.size 0 zq).trans q5
        have v1 := (e4.look.2 w1.heap.size 1 zq).trans q5'
        have zq4 : w1.heap.size < w4.heap.size := by omega
        have zne : w1.heap.size ≠ w4.heap.size := by omega
        have znr : w1.heap.size ≠ wr.heap.size := by omega
        go_wp2_with fail
        go_roundw
        case rel =>
          refine ⟨k + 1, by omega, by go_num, ?_⟩
          rw [← hR'.out]
          first
            | exact (SpB.put (q1.trans e4) (e4.cell q3) (e4.cell q4) ((e4.look.2 w1.heap.size 0 zq).trans q5) ((e4.look.2 w1.heap.size 1 zq).trans q5') (o4.mono (show w1.heap.size + 1 ≤ wr.drew.heap.size from zq) (Nat.le_refl _))).ext ((Ext.refl _).alloc _)
            | exact SpB.put (q1.trans (e4s _ _)) ((e4s _ _).cell q3) ((e4s _ _).cell q4) (((e4s _ _).look.2 w1.heap.size 0 zq).trans q5) (((e4s _ _).look.2 w1.heap.size 1 zq).trans q5') (((o4.setCell (by simp) _).setCell (by simp) _).mono (by simp <;> omega) (by simp <;> omega))
        case measure => simp [intOf]; omega)
    · obtain rfl : k = vs.length := by omega
      rw [← HS.out] at q4 q6
      replace r0 := q1.cell r0
      replace r1 := q1.cell r1
      have E2 := E1.trans q1
      have zz := World.block_lt_of_cell? _ _ q3
      have zw := E1.size_le
      have g0 : wr.frozen? ⟨w.heap.size, 0, none⟩ = false := (q1.look.2 w.heap.size 0 zres).trans f0
      have g1 : wr.frozen? ⟨w.heap.size, 1, none⟩ = false := (q1.look.2 w.heap.size 1 zres).trans f1
      have HF : Hid (∀ W : World, W = (wr.setCell ⟨w.heap.size, 0, none⟩ (.int .i64 (m : Nat))).setCell ⟨w.heap.size, 1, none⟩ (.slice a2 (spanR vs (m : Int)).length c2) → NewB w (basisW (m : Int)) (spanR vs (m : Int)) (.returned (bsV (m : Int) a2 c2 (spanR vs (m : Int)))) W) := fun W hW => by
        subst hW
        rw [HB.out]
        refine ⟨a2, c2, rfl, (((q6.setCell (p := ⟨w.heap.size, 0, none⟩) (by show w.heap.size < _; omega) _).setCell (p := ⟨w.heap.size, 1, none⟩) (by show w.heap.size < _; omega) _).mono (by omega) (by simp)), ?_⟩
        exact (E2.setCell (p := ⟨w.heap.size, 0, none⟩) (Nat.le_refl _) _).setCell (p := ⟨w.heap.size, 1, none⟩) (Nat.le_refl _) _
      obtain ⟨zs, hzs⟩ : ∃ zs, Hid (zs = spanR vs (m : Int)) := ⟨_, rfl⟩
      rw [← hzs.out] at q4 HF ⊢
      clear q1 q6 E1 E2
      go_wp2_with fail
      refine bodyPost_ret (v := bsV (m : Int) a2 c2 zs) (by simp only [results, Try.results24]; go_simp) rfl ?_
      rw [← hzs.out]
      exact HF.out _ rfl

end Go.Proofs.Ytjcgnpnnhejfhaa
