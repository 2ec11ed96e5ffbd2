/- Contract of the reference's SolveSystem; its law. -/
import Derived.Test.YtninamlcffemoaaSys
import Derived.Test.YtninamlcffemoaaLawTot
namespace Go.Proofs.Ytninamlcffemoaa
open Go.RowKit
set_option linter.unusedVariables false
set_option maxRecDepth 20000

/-- A cell of a block that an append leaves alone. -/
theorem grown_vals {w w' : World} {row : Option Nat} {b o : Nat} {vs : List Value} (h : Vals w (some ⟨b, o, none⟩) vs) (hg : w.grownBy w' row) (hne : row ≠ some b) : Vals w' (some ⟨b, o, none⟩) vs := by
  intro i hi
  obtain ⟨b', o', hab, hc⟩ := h i hi
  injection hab with hab
  obtain ⟨rfl, rfl⟩ : b = b' ∧ o = o' := by simpa using hab
  exact ⟨b, o, rfl, (World.cell?_of_block (hg.block b (World.block_lt_of_cell? w _ hc) (fun e => hne e.symm))).trans hc⟩

set_option maxHeartbeats 8000000 in
set_option maxRecDepth 100000 in
theorem specSolveSystem_ok (a : Option Addr) (c : Nat) (m : List (List Int)) (b : Option Addr) (d : Nat) (v : List Int) (w : World) (h : MatR w a m) (h' : VC w b d v) (hl : m.length ≤ 1048576) (hr : ∀ xs ∈ m, xs.length ≤ 1048576) (hl' : v.length ≤ 1048576) :
    Calls Try.prog 42 #[.slice a m.length c, .slice b v.length d] w (NewIF w (solveL m v) (solveOk m v)) := by
  have Q := Lib.hid (specIsValidMatrix_ok a c m w h (by omega) (fun xs hx => Nat.le_trans (hr xs hx) (by omega)))
  have hb := h'.1
  clear hr h'
  have bad : Hid (sysOk m v = false → ∀ W, Ext w W → NewIF w (solveL m v) (solveOk m v) (.returned (.tuple #[.slice (some ⟨W.heap.size, 0, none⟩) 0 0, .bool false])) (W.alloc (.cells #[] 3))) := fun hs W hW => by
    rw [(solve_bad hs).1, (solve_bad hs).2]
    exact ⟨_, _, rfl, (OwnI.new W W.heap.size [] (Nat.le_refl _) (by simp)).more hW.size_le, hW.alloc _⟩
  cases q1 : validM m
  · have HS : Hid (sysOk m v = false) := by unfold sysOk; rw [q1]; exact Lib.hid rfl
    rw [q1] at Q
    go_enter Try.func42, Try.ntmps42
    go_wp2_with (go_at_call 26; (with_reducible refine (specColumnsOf_ok _ _ _ _ h).mono ?_); rintro e w' ⟨rfl, rfl⟩)
    (with_reducible refine Q.out.mono ?_)
    rintro e w1 ⟨rfl, q, rfl⟩
    have E1 := (Ext.refl w).drewN q
    generalize w.drewN q = w1 at *
    go_wp2_with fail
    go_ret2
    exact bad.out HS.out _ E1
  rw [q1] at Q
  cases q2 : validV v
  · have HS : Hid (sysOk m v = false) := by unfold sysOk; rw [q2]; simp [Hid]
    go_enter Try.func42, Try.ntmps42
    go_wp2_with (go_at_call 26; (with_reducible refine (specColumnsOf_ok _ _ _ _ h).mono ?_); rintro e w' ⟨rfl, rfl⟩)
    (with_reducible refine Q.out.mono ?_)
    rintro e w1 ⟨rfl, q, rfl⟩
    have E1 := (Ext.refl w).drewN q
    generalize w.drewN q = w1 at *
    go_wp2_with (go_at_call 69; (with_reducible refine (specIsValidVector_ok _ _ _ _ (hb.ext E1) (by omega)).mono ?_); rintro e w' ⟨rfl, rfl⟩; rw [q2])
    go_ret2
    exact bad.out HS.out _ E1
  by_cases q3 : v.length = m.length
  rotate_left
  · have HS : Hid (sysOk m v = false) := by unfold sysOk; rw [decide_eq_false q3]; simp [Hid]
    have q3' : ((v.length : Int) != (m.length : Int)) = true := by simp; omega
    clear q3
    go_enter Try.func42, Try.ntmps42
    go_wp2_with (go_at_call 26; (with_reducible refine (specColumnsOf_ok _ _ _ _ h).mono ?_); rintro e w' ⟨rfl, rfl⟩)
    (with_reducible refine Q.out.mono ?_)
    rintro e w1 ⟨rfl, q, rfl⟩
    have E1 := (Ext.refl w).drewN q
    generalize w.drewN q = w1 at *
    go_wp2_with (go_at_call 69; (with_reducible refine (specIsValidVector_ok _ _ _ _ (hb.ext E1) (by omega)).mono ?_); rintro e w' ⟨rfl, rfl⟩; rw [q2])
    go_ret2
    exact bad.out HS.out _ E1
  have q3' : ((v.length : Int) != (m.length : Int)) = false := by simp [q3]
  have HQ3 := Lib.hid q3
  have hcm := cols_le (validM_true.1 q1).1
  by_cases q4 : cols m = 40
  · have HS : Hid (sysOk m v = false) := by unfold sysOk; rw [decide_eq_false (show ¬ cols m < 40 by omega)]; simp [Hid]
    have q4' : (40 : Int) ≤ (cols m : Int) := by omega
    clear q3 q4
    go_enter Try.func42, Try.ntmps42
    go_wp2_with (go_at_call 26; (with_reducible refine (specColumnsOf_ok _ _ _ _ h).mono ?_); rintro e w' ⟨rfl, rfl⟩)
    (with_reducible refine Q.out.mono ?_)
    rintro e w1 ⟨rfl, q, rfl⟩
    have E1 := (Ext.refl w).drewN q
    generalize w.drewN q = w1 at *
    go_wp2_with (go_at_call 69; (with_reducible refine (specIsValidVector_ok _ _ _ _ (hb.ext E1) (by omega)).mono ?_); rintro e w' ⟨rfl, rfl⟩; rw [q2])
    go_ret2
    exact bad.out HS.out _ E1
  have hc40 : cols m < 40 := by omega
  have q4' : ¬ (40 : Int) ≤ (cols m : Int) := by omega
  have HS : Hid (sysOk m v = true) := by unfold sysOk; rw [q1, q2, decide_eq_true q3, decide_eq_true hc40]; exact Lib.hid rfl
  have HV := Lib.hid (validM_true.1 q1).1
  have hm40 := (validM_true.1 q1).2
  have HB := Lib.hid (validV_true.1 q2).1
  have HRM := Lib.hid (wide_RM (b := v) HV.out HB.out hc40)
  have HSOL : Hid (solve m v = solTo (gj (wideTo m v m.length) (cols m + 1)) (cols m) (gj (wideTo m v m.length) (cols m + 1)).length) := by unfold solve; rw [if_pos HS.out]; exact Lib.hid rfl
  clear q3 q4 bad
  obtain ⟨i, hi, hz0, hz1, hz2⟩ := info_parts infoInt
  go_enter Try.func42, Try.ntmps42
  go_wp2_with (go_at_call 26; (with_reducible refine (specColumnsOf_ok _ _ _ _ h).mono ?_); rintro e w' ⟨rfl, rfl⟩)
  (with_reducible refine Q.out.mono ?_)
  rintro e w1 ⟨rfl, q, rfl⟩
  have E1 := (Ext.refl w).drewN q
  clear Q
  generalize w.drewN q = w1 at *
  have o0 := (OM.new0 w1).mono (C := w.heap.size) (C2 := (w1.alloc (.cells #[] 36)).heap.size) E1.size_le (Nat.le_refl _)
  have E2 := E1.alloc (.cells #[] 36)
  go_wp2_with (go_at_call 69; (with_reducible refine (specIsValidVector_ok _ _ _ _ (hb.ext E1) (by omega)).mono ?_); rintro e w' ⟨rfl, rfl⟩; rw [q2])
  go_loopw [7, 8] (fun x i wr => ∃ (j : Nat) (a1 : Option Addr) (c1 : Nat) (yss : List (List Int)), j ≤ m.length ∧ i = .int .i64 j ∧ x = .slice a1 yss.length c1 ∧ Hid (yss = wideTo m v j) ∧ OM wr w.heap.size wr.heap.size a1 c1 yss ∧ Ext w wr) (fun _ i _ => m.length - (intOf i).toNat)
  case atStart => exact ⟨0, _, _, [], Nat.zero_le _, rfl, rfl, rfl, o0, E2⟩
  case round =>
    clear E1 o0 E2
    obtain ⟨j, a1, c1, yss, hj, rfl, rfl, HY, ho, he⟩ := hrel
    have hyl : yss.length ≤ 40 := by rw [HY.out, wideTo_length]; omega
    by_cases hlt : j < m.length
    · obtain ⟨b1, o1, ra, rc, xs, rfl, hbl, hx, hcw, hroww⟩ := h.at_ hlt
      have hjv : j < v.length := by rw [HQ3.out]; exact hlt
      obtain ⟨b2, o2, y, rfl, _, hy, hcyw⟩ := hb.atI hjv
      have hc := he.cell hcw
      have hcy := he.cell hcyw
      have hrow := hroww.ext he
      replace hcw := Lib.hid hcw
      replace hcyw := Lib.hid hcyw
      clear hroww
      have hxl : xs.length ≤ 40 := (HV.out.ok hx.out).2.1
      obtain ⟨ys, hys⟩ : ∃ ys, Hid (ys = xs ++ [y]) := ⟨_, rfl⟩
      have hysl : ys.length ≤ 41 := by rw [hys.out]; simp; omega
      obtain ⟨zss, hzs⟩ : ∃ zss, Hid (zss = yss ++ [ys]) := ⟨_, rfl⟩
      have HT : Hid (zss = wideTo m v (j + 1)) := by rw [wideTo_succ, getD_some hx.out, ent_some hy.out, ← HY.out, ← hys.out]; exact hzs
      have hsz := he.size_le
      have i1 : (0 : Int) ≤ (j : Int) := by omega
      have i2 : (j : Int) < (m.length : Int) := by omega
      have i3 : (j : Int) < (v.length : Int) := by omega
      have D0 : Ext wr wr.drew := (Ext.refl wr).drew
      have X1 : Ext wr (wr.drew.alloc (.cells #[] 3)) := D0.alloc _
      have X2 : Ext wr ((wr.drew.alloc (.cells #[] 3)).alloc (.cells #[.int .i64 y] 3)) := (D0.alloc _).alloc _
      have X3 : Ext wr ((wr.drew.alloc (.cells #[.int .i64 y] 3)).alloc (.cells #[] 3)) := (D0.alloc _).alloc _
      have O1 : OwnI (wr.drew.alloc (.cells #[] 3)) wr.heap.size (some ⟨wr.heap.size, 0, none⟩) 0 [] := OwnI.new wr.drew wr.heap.size [] (Nat.le_refl _) (by simp)
      have O2 : OwnI ((wr.drew.alloc (.cells #[] 3)).alloc (.cells #[.int .i64 y] 3)) wr.heap.size (some ⟨wr.heap.size, 0, none⟩) 0 [] := O1.ext ((Ext.refl _).alloc _)
      have O3 : OwnI ((wr.drew.alloc (.cells #[.int .i64 y] 3)).alloc (.cells #[] 3)) wr.heap.size (some ⟨wr.heap.size + 1, 0, none⟩) 0 [] := by
        have := OwnI.new (wr.drew.alloc (.cells #[.int .i64 y] 3)) wr.heap.size [] (by simp) (by simp)
        simpa using this
      have N2 : Vals ((wr.drew.alloc (.cells #[] 3)).alloc (.cells #[.int .i64 y] 3)) (some ⟨wr.heap.size + 1, 0, none⟩) (I [y]) := by
        have := Vals.new (wr.drew.alloc (.cells #[] 3)) [.int .i64 y] 3
        simpa using this
      have N3 : Vals ((wr.drew.alloc (.cells #[.int .i64 y] 3)).alloc (.cells #[] 3)) (some ⟨wr.heap.size, 0, none⟩) (I [y]) := (Vals.new wr.drew [.int .i64 y] 3).ext ((Ext.refl _).alloc _)
      have HX1 := Lib.hid X1
      have HX2 := Lib.hid X2
      have HX3 := Lib.hid X3
      have HO1 := Lib.hid O1
      have HO2 := Lib.hid O2
      have HO3 := Lib.hid O3
      have HN2 := Lib.hid N2
      have HN3 := Lib.hid N3
      have hob := Lib.hid ho.block
      have HHO := Lib.hid ho
      clear X1 X2 X3 O1 O2 O3 N2 N3 D0 ho
      go_wp2_with fail
      go_region_held3 (fun w' => w'.cell? ⟨b1, o1 + j, none⟩ = some (.slice ra xs.length rc) ∧ w'.cell? ⟨b2, o2 + j, none⟩ = some (.int .i64 y))
        (first | go_keep | exact ⟨e5.cell hcw.out, e5.cell hcyw.out⟩ | exact ⟨e4'.cell hc, e4'.cell hcy⟩ | exact ⟨e4.cell hc, e4.cell hcy⟩ | exact ⟨e3'.cell hc, e3'.cell hcy⟩ | exact ⟨e3.cell hc, e3.cell hcy⟩)
        (first
          | (refine step_appM _ (by rfl) _ _ (by rfl) w.heap.size wr.heap.size _ _ yss (by rfl) (by first | exact (HHO.out.ext e4).ext ((Ext.refl w4).alloc _)) _ _ _ _ ys (by rfl) (Vals.new w4 [.slice a4 ys.length c4] 36) (((OI.of o4).ext ((Ext.refl w4).alloc _)).mono (Nat.le_refl _) (by simp)) hsz (by have := e4.size_le; simp; omega) zss hzs.out (by omega) ?_; intro a5 c5 w5 o5 g5; have e5 : Ext w w5 := ((he.trans e4).alloc _).grown g5 (fun k hk => (hob.out k hk).1))
          | (refine step_appI _ (by rfl) _ _ (by rfl) wr.heap.size _ _ xs (by rfl) (by first | exact o3 | exact o3.ext ((Ext.refl w3).alloc _)) _ _ [y] (by rfl) (by first | exact n3 | exact Vals.new w3 [.int .i64 y] _) ys hys.out (by simp; omega) (by have := e3.size_le; simp; omega) ?_; intro a4 c4 w4 o4 g4 _; have e4 : Ext wr w4 := (by first | exact e3.grown g4 (fun k hk => (o3.block k hk).1) | exact (e3.alloc _).grown g4 (fun k hk => (o3.block k hk).1)))
          | (refine step_appI _ (by rfl) _ _ (by rfl) wr.heap.size _ _ [] (by rfl) (by first | exact HO1.out | exact HO2.out | exact HO3.out) _ _ xs (by rfl) (by first | exact hrow.ext HX1.out | exact hrow.ext HX2.out | exact hrow.ext HX3.out) xs rfl (by simp; omega) (by first | exact HX1.out.size_le | exact HX2.out.size_le | exact HX3.out.size_le) ?_; intro a3 c3 w3 o3 g3 _; have e3 : Ext wr w3 := (by first | exact HX1.out.grown g3 (by simp [blockOf]) | exact HX2.out.grown g3 (by simp [blockOf]) | exact HX3.out.grown g3 (by simp [blockOf])); (try have n3 := grown_vals HN2.out g3 (by simp [blockOf])); (try have n3 := grown_vals HN3.out g3 (by simp [blockOf]))))
      all_goals
        clear HX1 HX2 HX3 HO1 HO2 HO3 HN2 HN3 hob HHO
        go_wp2_with fail
        go_roundw
        case rel => exact ⟨j + 1, a5, c5, zss, by omega, by go_num, rfl, HT, o5, e5⟩
        case measure => simp [intOf]; omega
    · obtain rfl : j = m.length := by omega
      rw [← HY.out] at HSOL HRM
      have HWV : Hid (VR (cols m + 1) yss) := by rw [HY.out]; exact wideTo_VR (b := v) (by omega) HV.out HB.out
      obtain ⟨xx, hxx⟩ : ∃ xx, Hid (xx = gj yss (cols m + 1)) := ⟨_, rfl⟩
      have CR := specReduce_ok a1 c1 yss (cols m + 1) (cols m + 1) wr ho.reads HWV.out (by omega) (Nat.le_refl _) (by omega)
      rw [← hxx.out] at HSOL HRM CR
      rw [show ((cols m + 1 : Nat) : Int) = (cols m : Int) + 1 by omega] at CR
      have HCR := Lib.hid CR
      have hxl : xx.length ≤ 40 := by have := HRM.out.2; omega
      clear CR
      go_wp2_with fail
      (with_reducible refine HCR.out.mono ?_)
      rintro e w4 ⟨a4, c4, rfl, o4, e4⟩
      have E4 := he.trans e4
      have zw := E4.size_le
      clear he e4 HCR ho
      go_wp2_with (at_make; refine wpList_make_full _ rfl _ _ 36 rfl w4.heap.size 3 i (.int .i64 0) 1 Try.underlying36 hi hz0 hz1 _ _ _ _ (cols m) rfl rfl rfl rfl ?b1 ?b2 (Nat.le_refl _) ?_)
      case b1 => rw [hz2]; omega
      case b2 => unfold maxLen; omega
      intro w3 hown hgrow
      have q4 : OI w3 w4.heap.size w3.heap.size (some ⟨w4.heap.size, 0, none⟩) (cols m) (List.replicate (cols m) 0) := by
        refine OI.of ?_
        unfold OwnI
        simpa [Value.cells, toList_madeCells_one] using hown
      have e3 := (Ext.refl w4).grown hgrow (by simp)
      have E3 := E4.trans e3
      have o5 := o4.ext e3
      clear hown hgrow E4 e3 o4
      have SE : Hid (∀ o, solTo xx (cols m) xx.length = some o → solveL m v = o ∧ solveOk m v = true) := fun o ho => solve_some (HSOL.out.trans ho)
      have SN : Hid (solTo xx (cols m) xx.length = none → solveL m v = [] ∧ solveOk m v = false) := fun ho => solve_none (HSOL.out.trans ho)
      obtain ⟨wq, hwq⟩ : ∃ wq, wq = wr := ⟨_, rfl⟩
      subst hwq
      go_wp2_with fail
      go_loopw [11] (fun i wr => ∃ (k : Nat) (o : List Int), k ≤ xx.length ∧ i = .int .i64 k ∧ Hid (solTo xx (cols m) k = some o) ∧ OI wr w4.heap.size w3.heap.size (some ⟨w4.heap.size, 0, none⟩) (cols m) o ∧ OM wr wq.heap.size w4.heap.size a4 c4 xx ∧ Ext w wr) (fun i _ => xx.length - (intOf i).toNat)
      case atStart => exact ⟨0, _, Nat.zero_le _, rfl, rfl, q4, o5, E3⟩
      case round =>
        clear q4 o5 E3
        obtain ⟨k, o, hk, rfl, HSo, hO, hM, he⟩ := hrel
        have HOL := Lib.hid (solTo_len HSo.out)
        by_cases hlt : k < xx.length
        · obtain ⟨b1, o1, ra, rc, xs, rfl, hbl, hx, hc, hrow⟩ := hM.reads.at_ hlt
          have hxs : Hid (xx.getD k [] = xs) := getD_some hx.out
          have hrk := HRM.out.1.1.getD hlt
          have hlk := HRM.out.1.ld_lt hlt
          rw [hxs.out] at hrk hlk
          obtain ⟨p, hp⟩ : ∃ p, Hid (ld xs = p) := ⟨_, rfl⟩
          rw [hp.out] at hlk
          have hxl2 : xs.length ≤ 40 := hrk.2.2
          have HP : Hid (leadI xs = (p : Int)) := leadI_nat hp.out (by rw [hrk.2.1]; exact hlk)
          have hcx : cols m < xs.length := by rw [hrk.2.1]; omega
          obtain ⟨b2, o2, y, rfl, _, hy, hcy⟩ := hrow.atI hcx
          have hye : Hid (ent xs (cols m) = y) := ent_some hy.out
          have i1 : (cols m : Int) < (xs.length : Int) := by omega
          clear hrk
          by_cases hpn : p = cols m
          · have hpn' : ((p : Int) == (cols m : Int)) = true := by simp [hpn]
            have HF := Lib.hid (SN.out (solTo_stop HSo.out hlt (by rw [hxs.out, hp.out]; exact hpn)))
            have o0 := (OwnI.new wr wr.heap.size [] (Nat.le_refl _) (by simp)).more he.size_le
            clear hpn
            go_wp2_with (go_at_call 70; (with_reducible refine (specLeadingIndex_ok _ _ _ _ hrow (by omega)).mono ?_); rintro e w' ⟨rfl, rfl⟩; rw [HP.out])
            go_ret2
            rw [HF.out.1, HF.out.2]
            exact ⟨_, _, rfl, o0, he.alloc _⟩
          · have hpn' : ((p : Int) == (cols m : Int)) = false := by simp; omega
            have hpo : p < o.length := by rw [HOL.out]; omega
            have i2 : (p : Int) < (cols m : Int) := by omega
            have HGO : Hid (solTo xx (cols m) (k + 1) = some (o.set p y)) := by
              have := solTo_go HSo.out (by rw [hxs.out, hp.out]; exact hpn)
              rw [hxs.out, hp.out, hye.out] at this
              exact this
            obtain ⟨s1, s2, s3, u, s4⟩ := hO.store p y hpo
            have s5 := hM.span s2 (.inl (Nat.le_refl _))
            have s6 := Span.ext he s2 (by omega)
            clear hpn hO hM he s2
            go_wp2_with (go_at_call 70; (with_reducible refine (specLeadingIndex_ok _ _ _ _ hrow (by omega)).mono ?_); rintro e w' ⟨rfl, rfl⟩; rw [HP.out])
            go_roundw
            case rel => exact ⟨k + 1, o.set p y, by omega, by go_num, HGO, s1, s5, s6⟩
            case measure => simp [intOf]; omega
        · obtain rfl : k = xx.length := by omega
          have HF := Lib.hid (SE.out o HSo.out)
          go_wp2_with fail
          go_ret2
          rw [HF.out.1, HF.out.2]
          exact ⟨_, _, by rw [HOL.out]; rfl, hO.1.more (by omega), he⟩

theorem solveL_len (m : List (List Int)) (b : List Int) : (solveL m b).length ≤ 40 := by
  unfold solveL solve
  split
  · rename_i h
    have hp := sysOk_parts h
    cases hs : solTo (gj (wideTo m b m.length) (cols m + 1)) (cols m) (gj (wideTo m b m.length) (cols m + 1)).length with
    | none => simp
    | some o => have := solTo_len hs; simp; omega
  · simp

end Go.Proofs.Ytninamlcffemoaa
