/- FnCoefficients: the law. -/
import Derived.Test.YtkegknophppdgaaFco
namespace Go.Proofs.Ytkegknophppdgaa
open Go.RowKit
set_option linter.unusedVariables false
set_option maxRecDepth 20000

theorem density_range (v : List Int) : 0 ≤ density v ∧ density v ≤ 100 := by
  unfold density ceilDiv
  have hc := cnz_le v
  split
  · rename_i h
    simp only [Bool.and_eq_true] at h
    have h1 := inR_true.1 h.1
    have h2 := inR_true.1 h.2
    refine ⟨Int.ediv_nonneg (by omega) (by omega), ?_⟩
    have h3 : (100 * (cnz v : Int) + v.length - 1) < 101 * (v.length : Int) := by omega
    have := Int.ediv_lt_of_lt_mul (show 0 < (v.length : Int) by omega) h3
    omega
  · omega
theorem cnz_lead (v : List Int) : ((cnz v : Int) == 0) = decide (leadI v < 0) := by
  unfold leadI
  split
  · rename_i h
    have : cnz v = 0 := by
      unfold cnz
      rw [List.filter_eq_nil_iff.2 (fun x hx => by have := List.all_eq_true.1 h x hx; simp at this; simp [this])]
      rfl
    rw [this]
    rfl
  · rename_i h
    have h0 : cnz v ≠ 0 := fun e => h (List.all_eq_true.2 fun x hx => by
      unfold cnz at e
      have := List.eq_nil_of_length_eq_zero e
      have := List.filter_eq_nil_iff.1 this x hx
      simpa using this)
    have h1 : ((cnz v : Int) == 0) = false := beq_eq_false_iff_ne.2 (by omega)
    rw [h1]
    exact (decide_eq_false (by omega)).symm
theorem encCoef_min (v : List Int) : ((encCoef v).length : Int) = if ((encSparse v).length : Int) < ((encDense v).length : Int) then ((encSparse v).length : Int) else ((encDense v).length : Int) := by
  unfold encCoef
  by_cases h : (encSparse v).length < (encDense v).length
  · rw [if_pos h, if_pos (by omega)]
  · rw [if_neg h, if_neg (by omega)]
theorem encCoef_bytes (v : List Int) : AllB (encCoef v) := by
  unfold encCoef
  split
  · exact encSparse_bytes _
  · exact encDense_bytes _
theorem encCoef_no {v : List Int} (h : validV v = false) : encCoef v = [] := by
  unfold encCoef
  rw [encSparse_no h, encDense_no h]
  rfl
theorem dec_dense {v : List Int} (h : validV v = true) : dcV (encDense v) = v ∧ dcOk (encDense v) = true := dc_some (decCo_some h (.inl rfl))
theorem dec_sparse {v : List Int} (h : validV v = true) : dcV (encSparse v) = v ∧ dcOk (encSparse v) = true := dc_some (decCo_some h (.inr rfl))
theorem dec_coef {v : List Int} (h : validV v = true) : dcV (encCoef v) = v ∧ dcOk (encCoef v) = true := by
  unfold encCoef
  split
  · exact dec_sparse h
  · exact dec_dense h
theorem specMin2_ok (x y : Int) (w : World) : Calls Try.prog 89 #[.int .i64 x, .int .i64 y] w fun e w' => e = .returned (.int .i64 (if y < x then y else x)) ∧ w = w' := by
  by_cases h : y < x
  · go_enter Try.func89, Try.ntmps89
    go_wp2
    go_ret
    simp
  · go_enter Try.func89, Try.ntmps89
    go_wp2
    go_ret
    simp

theorem sameInts_self (a b : Option Addr) (c d : Nat) (xs : List Int) (w : World) (h : Vals w a (I xs)) (h' : Vals w b (I xs)) (hl : xs.length ≤ 1099511627776) :
    Calls Try.prog 71 #[.slice a xs.length c, .slice b xs.length d] w (Quiet w (.bool true)) := by
  have := sameInts_ok a b c d xs xs w h h' hl
  rw [show decide (xs = xs) = true from decide_eq_true rfl] at this
  exact this

set_option maxHeartbeats 4000000 in
set_option maxRecDepth 100000 in
theorem lawFnCoefficients (a : Option Addr) (c : Nat) (xs : List Int) (w : World) (r0 : Vals w a (Y xs)) (m0 : xs.length ≤ maxLen) (m1 : ∀ x ∈ xs, 0 ≤ x ∧ x ≤ 255) :
    Calls Try.prog 14 #[.slice a xs.length c] w (Gives w (.bool true)) := by
  by_cases hl : xs.length ≤ 1048576
  rotate_left
  · have C1 := Lib.hid (big_yes a c xs w hl m0)
    clear r0 m1 hl m0
    go_enter Try.func14, Try.ntmps14
    go_wp2_with (go_at_call 57; (with_reducible refine C1.out.mono ?_); rintro e w' ⟨rfl, rfl⟩)
    go_ret
    exact ⟨rfl, Ext.refl _⟩
  have C1 := Lib.hid (big_no a c xs w hl)
  have CD := Lib.hid (drawCoefs_ok a c xs w r0 m1 hl)
  have CB := Lib.hid (fun w' (he : Ext w w') => drawDecCoefs_ok a c xs w' (r0.ext he) m1 hl)
  clear r0 m1 hl m0
  go_enter Try.func14, Try.ntmps14
  go_wp2_with (go_at_call 57; (with_reducible refine C1.out.mono ?_); rintro e w' ⟨rfl, rfl⟩)
  (with_reducible refine CD.out.mono ?_)
  rintro e w1 ⟨av, cv, v, rfl, hv60, hv, e1⟩
  have CB1 := Lib.hid (CB.out w1 e1)
  clear CD C1 CB
  go_wp2_with fail
  (with_reducible refine CB1.out.mono ?_)
  rintro e w2 ⟨ab, cb, ys, rfl, hyb, hyl, hy, e2⟩
  have HYB := Lib.hid hyb
  have hv2 := hv.ext e2
  have E2 := e1.trans e2
  have CI := Lib.hid (implDecodeCoefficients_ok ab cb ys w2 hy HYB.out (by omega))
  obtain ⟨y, hyy⟩ : ∃ y, Hid (y = dcV ys) := ⟨_, rfl⟩
  obtain ⟨q, hqq⟩ : ∃ q, Hid (q = dcOk ys) := ⟨_, rfl⟩
  have HQ : Hid (q = true → y.length ≤ 40 ∧ (decide (encDense y = ys) = false → decide (encSparse y = ys) = true)) := fun h => by
    rw [hqq.out] at h
    rw [hyy.out]
    cases hd : decCo ys with
    | none => rw [(dc_none hd).2] at h; cases h
    | some v' =>
      obtain ⟨h1, h2⟩ := decCo_sound hd
      rw [(dc_some hd).1]
      refine ⟨(validV_true.1 h1).2, fun h3 => ?_⟩
      rcases h2 with h2 | h2
      · exact absurd h2 (of_decide_eq_false h3)
      · exact decide_eq_true h2
  rw [← hyy.out, ← hqq.out] at CI
  have CS := Lib.hid (fun w' (he : Ext w2 w') => specDecodeCoefficients_ok ab cb ys w' (hy.ext he) HYB.out (by omega))
  rw [← hqq.out] at CS
  have hql : y.length ≤ 1048576 := by rw [hyy.out]; exact dc_len ys
  have hdl : (dcV ys).length ≤ 1048576 := dc_len ys
  clear hyb e1 e2 CB1 hv
  go_wp2_with fail
  (with_reducible refine CI.out.mono ?_)
  rintro e w3 ⟨a3, c3, rfl, o3, e3⟩
  have CS1 := Lib.hid (CS.out w3 e3)
  clear CI CS
  go_wp2_with fail
  (with_reducible refine CS1.out.mono ?_)
  rintro e w4 ⟨a4, c4, rfl, o4, e4⟩
  have hy4 := hy.ext (e3.trans e4)
  have hv4 := hv2.ext (e3.trans e4)
  have vy4 := o3.vals.ext e4
  have E4 := E2.trans (e3.trans e4)
  clear CS1 e3 e4 o3 o4 hy hv2 E2
  have key : q = false ∨ (q = true ∧ decide (encDense y = ys) = true) ∨ (q = true ∧ decide (encDense y = ys) = false ∧ decide (encSparse y = ys) = true) := by
    cases hq : q
    · exact .inl rfl
    · cases hd : decide (encDense y = ys)
      · exact .inr (.inr ⟨rfl, rfl, (HQ.out hq).2 hd⟩)
      · exact .inr (.inl ⟨rfl, rfl⟩)
  obtain ⟨ds, hds⟩ : ∃ ds, Hid (ds = encDense v) := ⟨_, rfl⟩
  obtain ⟨ss, hss⟩ : ∃ ss, Hid (ss = encSparse v) := ⟨_, rfl⟩
  obtain ⟨us, hus⟩ : ∃ us, Hid (us = encCoef v) := ⟨_, rfl⟩
  have CDn : Hid (∀ W, Vals W av (I v) → Calls Try.prog 85 #[.slice av v.length cv] W (NewY W ds)) := fun W h => by rw [hds.out]; exact implEncodeDense_ok _ _ _ _ h (by omega)
  have CSp : Hid (∀ W, Vals W av (I v) → Calls Try.prog 86 #[.slice av v.length cv] W (NewY W ss)) := fun W h => by rw [hss.out]; exact implEncodeSparse_ok _ _ _ _ h (by omega)
  have CCo : Hid (∀ W, Vals W av (I v) → Calls Try.prog 87 #[.slice av v.length cv] W (NewY W us)) := fun W h => by rw [hus.out]; exact implEncodeCoefficients_ok _ _ _ _ h (by omega)
  have CSz : Hid (∀ W, Vals W av (I v) → Calls Try.prog 88 #[.slice av v.length cv] W (Gives W (.int .i64 (us.length : Nat)))) := fun W h => by rw [hus.out]; exact implEncodedSize_ok _ _ _ _ h (by omega)
  have hdsl : ds.length ≤ 2000 := by rw [hds.out]; exact Nat.le_trans (encDense_len _) (by omega)
  have hssl : ss.length ≤ 2000 := by rw [hss.out]; exact Nat.le_trans (encSparse_len _) (by omega)
  have husl : us.length ≤ 2000 := by rw [hus.out]; exact Nat.le_trans (encCoef_len _) (by omega)
  have DEC : Hid (validV v = true → ∀ W b d, (Vals W b (Y ds) → Calls Try.prog 51 #[.slice b ds.length d] W (NewIK W v true)) ∧ (Vals W b (Y ss) → Calls Try.prog 51 #[.slice b ss.length d] W (NewIK W v true)) ∧ (Vals W b (Y us) → Calls Try.prog 51 #[.slice b us.length d] W (NewIK W v true))) := fun hval W b d => by
    refine ⟨fun h => ?_, fun h => ?_, fun h => ?_⟩
    · have := implDecodeCoefficients_ok b d ds W h (by rw [hds.out]; exact encDense_bytes _) (by omega)
      rw [show dcV ds = v by rw [hds.out]; exact (dec_dense hval).1, show dcOk ds = true by rw [hds.out]; exact (dec_dense hval).2] at this
      exact this
    · have := implDecodeCoefficients_ok b d ss W h (by rw [hss.out]; exact encSparse_bytes _) (by omega)
      rw [show dcV ss = v by rw [hss.out]; exact (dec_sparse hval).1, show dcOk ss = true by rw [hss.out]; exact (dec_sparse hval).2] at this
      exact this
    · have := implDecodeCoefficients_ok b d us W h (by rw [hus.out]; exact encCoef_bytes _) (by omega)
      rw [show dcV us = v by rw [hus.out]; exact (dec_coef hval).1, show dcOk us = true by rw [hus.out]; exact (dec_coef hval).2] at this
      exact this
  have UNO : Hid (validV v = false → us = []) := fun h => by rw [hus.out]; exact encCoef_no h
  have UMIN : Hid ((us.length : Int) = if (ss.length : Int) < (ds.length : Int) then (ss.length : Int) else (ds.length : Int)) := by rw [hus.out, hss.out, hds.out]; exact encCoef_min v
  have hden := density_range v
  obtain ⟨dd, hdd⟩ : ∃ dd, Hid (dd = density v) := ⟨_, rfl⟩
  have CDe : Hid (∀ W, Vals W av (I v) → Calls Try.prog 90 #[.slice av v.length cv] W fun e w' => e = .returned (.int .i64 dd) ∧ W = w') := fun W h => by rw [hdd.out]; exact implDensityPercent_ok _ _ _ _ h (by omega)
  rw [← hdd.out] at hden
  obtain ⟨hd0, hd1⟩ := hden
  have hcl := cnz_lead v
  clear hyy hqq hds hss hus hdd hdl
  rcases key with rfl | ⟨rfl, h2⟩ | ⟨rfl, h2, h3⟩
  · obtain ⟨wz, hwz⟩ : ∃ wz, wz = w4 := ⟨_, rfl⟩
    subst hwz
    clear vy4
    go_wp2_with fail
    cases hval : validV v
    · have HU0 := UNO.out hval
      subst HU0
      go_wp2_with (go_at_call 66; (with_reducible refine (specIsValidVector_ok _ _ _ _ hv4 (by omega)).mono ?_); rintro e w' ⟨rfl, rfl⟩; rw [hval])
      (with_reducible refine (CCo.out _ hv4).mono ?_)
      rintro e w9 ⟨a9, c9, rfl, o9, e9⟩
      go_wp2_with fail
      go_ret
      exact ⟨rfl, E4.trans e9⟩
    · have DC := Lib.hid (DEC.out hval)
      go_wp2_with (go_at_call 66; (with_reducible refine (specIsValidVector_ok _ _ _ _ hv4 (by omega)).mono ?_); rintro e w' ⟨rfl, rfl⟩; rw [hval])
      (with_reducible refine (CDn.out _ hv4).mono ?_)
      rintro e u1 ⟨b1, d1, rfl, o1, e1⟩
      have E1 := E4.trans e1
      have hv1 := hv4.ext e1
      go_wp2_with fail
      (with_reducible refine ((DC.out u1 b1 d1).1 o1.vals).mono ?_)
      rintro e u2 ⟨b2, d2, rfl, o2, e2⟩
      have E2 := E1.trans e2
      have hv2 := hv1.ext e2
      have X2 := o2.vals
      clear E4 hv4 o1 e1 E1 hv1 o2
      go_wp2_with fail
      (with_reducible refine (CSp.out _ hv2).mono ?_)
      rintro e u3 ⟨b3, d3, rfl, o3, e3⟩
      have E3 := E2.trans e3
      have hv3 := hv2.ext e3
      have X3 := X2.ext e3
      go_wp2_with fail
      (with_reducible refine ((DC.out u3 b3 d3).2.1 o3.vals).mono ?_)
      rintro e u4 ⟨b4, d4, rfl, o4, e4⟩
      have E4 := E3.trans e4
      have hv4 := hv3.ext e4
      have X4 := X3.ext e4
      have Z4 := o4.vals
      clear E2 hv2 X2 e2 e3 o3 E3 hv3 X3 o4 e4
      go_wp2_with fail
      (with_reducible refine (CCo.out _ hv4).mono ?_)
      rintro e u5 ⟨b5, d5, rfl, o5, e5⟩
      go_wp2_with fail
      (with_reducible refine ((DC.out u5 b5 d5).2.2 o5.vals).mono ?_)
      rintro e u6 ⟨b6, d6, rfl, o6, e6⟩
      have e56 := e5.trans e6
      have E6 := E4.trans e56
      have hv6 := hv4.ext e56
      have X6 := X4.ext e56
      have Z6 := Z4.ext e56
      have U6 := o6.vals
      clear E4 hv4 X4 Z4 e5 e6 e56 o5 o6
      go_wp2_with fail
      (with_reducible refine (CSz.out _ hv6).mono ?_)
      rintro e u7 ⟨rfl, e7⟩
      have E7 := E6.trans e7
      have hv7 := hv6.ext e7
      have X7 := X6.ext e7
      have Z7 := Z6.ext e7
      have U7 := U6.ext e7
      clear E6 hv6 X6 Z6 U6 e7
      have S1 := sameInts_self b2 av d2 cv v u7 X7 hv7 (by omega)
      have S1' := Lib.hid S1
      clear S1
      go_wp2_with fail
      (with_reducible refine S1'.out.mono ?_)
      rintro e w' ⟨rfl, n1, rfl⟩
      have E8 := E7.drewN n1
      have hv8 := hv7.ext ((Ext.refl u7).drewN n1)
      have Z8 := Z7.ext ((Ext.refl u7).drewN n1)
      have U8 := U7.ext ((Ext.refl u7).drewN n1)
      generalize u7.drewN n1 = u8 at *
      clear E7 hv7 X7 Z7 U7 S1'
      have S2 := sameInts_self b4 av d4 cv v u8 Z8 hv8 (by omega)
      have S2' := Lib.hid S2
      clear S2
      go_wp2_with fail
      (with_reducible refine S2'.out.mono ?_)
      rintro e w' ⟨rfl, n2, rfl⟩
      have E9 := E8.drewN n2
      have hv9 := hv8.ext ((Ext.refl u8).drewN n2)
      have U9 := U8.ext ((Ext.refl u8).drewN n2)
      generalize u8.drewN n2 = u9 at *
      clear E8 hv8 Z8 U8 S2'
      have S3 := sameInts_self b6 av d6 cv v u9 U9 hv9 (by omega)
      have S3' := Lib.hid S3
      clear S3
      go_wp2_with fail
      (with_reducible refine S3'.out.mono ?_)
      rintro e w' ⟨rfl, n3, rfl⟩
      have E10 := E9.drewN n3
      have hv10 := hv9.ext ((Ext.refl u9).drewN n3)
      generalize u9.drewN n3 = u10 at *
      clear E9 hv9 U9 S3'
      go_wp2_with fail
      (with_reducible refine (CDn.out _ hv10).mono ?_)
      rintro e u11 ⟨b11, d11, rfl, o11, e11⟩
      have hv11 := hv10.ext e11
      go_wp2_with fail
      (with_reducible refine (CSp.out _ hv11).mono ?_)
      rintro e u12 ⟨b12, d12, rfl, o12, e12⟩
      have hv12 := hv11.ext e12
      have E12 := (E10.trans e11).trans e12
      clear hv10 hv11 e11 e12 o11 o12 E10
      go_wp2_with fail
      (with_reducible refine (specMin2_ok _ _ _).mono ?_)
      rintro e w' ⟨rfl, rfl⟩
      rw [← UMIN.out]
      go_wp2_with (first
        | (go_at_call 90; (with_reducible refine (CDe.out _ hv12).mono ?_); rintro e w' ⟨rfl, rfl⟩)
        | (go_at_call 91; (with_reducible refine (implCountNonzero_ok _ _ _ _ hv12 (by omega)).mono ?_); rintro e w' ⟨rfl, rfl⟩)
        | (go_at_call 92; (with_reducible refine (specLeadingIndex_ok _ _ _ _ hv12 (by omega)).mono ?_); rintro e w' ⟨rfl, rfl⟩))
      go_ret
      exact ⟨rfl, E12⟩
  · go_wp2_with fail
    (with_reducible refine (implEncodeDense_ok a3 c3 y w4 vy4 (by omega)).mono ?_)
    rintro e w5 ⟨a5, c5, rfl, o5, e5⟩
    have hlen := encDense_len y
    have Q := sameBytes_ok a5 ab c5 cb (encDense y) ys w5 o5.vals (hy4.ext e5) (by omega)
    rw [h2] at Q
    have hv5 := hv4.ext e5
    have E5 := E4.trans e5
    clear vy4 hv4 o5 e5 E4
    go_wp2_with fail
    (with_reducible refine Q.mono ?_)
    rintro e w6 ⟨rfl, n6, rfl⟩
    have hv4 := hv5.ext ((Ext.refl w5).drewN n6)
    have E4 := E5.drewN n6
    clear hv5 E5 Q
    generalize w5.drewN n6 = wz at *
    go_wp2_with fail
    cases hval : validV v
    · have HU0 := UNO.out hval
      subst HU0
      go_wp2_with (go_at_call 66; (with_reducible refine (specIsValidVector_ok _ _ _ _ hv4 (by omega)).mono ?_); rintro e w' ⟨rfl, rfl⟩; rw [hval])
      (with_reducible refine (CCo.out _ hv4).mono ?_)
      rintro e w9 ⟨a9, c9, rfl, o9, e9⟩
      go_wp2_with fail
      go_ret
      exact ⟨rfl, E4.trans e9⟩
    · have DC := Lib.hid (DEC.out hval)
      go_wp2_with (go_at_call 66; (with_reducible refine (specIsValidVector_ok _ _ _ _ hv4 (by omega)).mono ?_); rintro e w' ⟨rfl, rfl⟩; rw [hval])
      (with_reducible refine (CDn.out _ hv4).mono ?_)
      rintro e u1 ⟨b1, d1, rfl, o1, e1⟩
      have E1 := E4.trans e1
      have hv1 := hv4.ext e1
      go_wp2_with fail
      (with_reducible refine ((DC.out u1 b1 d1).1 o1.vals).mono ?_)
      rintro e u2 ⟨b2, d2, rfl, o2, e2⟩
      have E2 := E1.trans e2
      have hv2 := hv1.ext e2
      have X2 := o2.vals
      clear E4 hv4 o1 e1 E1 hv1 o2
      go_wp2_with fail
      (with_reducible refine (CSp.out _ hv2).mono ?_)
      rintro e u3 ⟨b3, d3, rfl, o3, e3⟩
      have E3 := E2.trans e3
      have hv3 := hv2.ext e3
      have X3 := X2.ext e3
      go_wp2_with fail
      (with_reducible refine ((DC.out u3 b3 d3).2.1 o3.vals).mono ?_)
      rintro e u4 ⟨b4, d4, rfl, o4, e4⟩
      have E4 := E3.trans e4
      have hv4 := hv3.ext e4
      have X4 := X3.ext e4
      have Z4 := o4.vals
      clear E2 hv2 X2 e2 e3 o3 E3 hv3 X3 o4 e4
      go_wp2_with fail
      (with_reducible refine (CCo.out _ hv4).mono ?_)
      rintro e u5 ⟨b5, d5, rfl, o5, e5⟩
      go_wp2_with fail
      (with_reducible refine ((DC.out u5 b5 d5).2.2 o5.vals).mono ?_)
      rintro e u6 ⟨b6, d6, rfl, o6, e6⟩
      have e56 := e5.trans e6
      have E6 := E4.trans e56
      have hv6 := hv4.ext e56
      have X6 := X4.ext e56
      have Z6 := Z4.ext e56
      have U6 := o6.vals
      clear E4 hv4 X4 Z4 e5 e6 e56 o5 o6
      go_wp2_with fail
      (with_reducible refine (CSz.out _ hv6).mono ?_)
      rintro e u7 ⟨rfl, e7⟩
      have E7 := E6.trans e7
      have hv7 := hv6.ext e7
      have X7 := X6.ext e7
      have Z7 := Z6.ext e7
      have U7 := U6.ext e7
      clear E6 hv6 X6 Z6 U6 e7
      have S1 := sameInts_self b2 av d2 cv v u7 X7 hv7 (by omega)
      have S1' := Lib.hid S1
      clear S1
      go_wp2_with fail
      (with_reducible refine S1'.out.mono ?_)
      rintro e w' ⟨rfl, n1, rfl⟩
      have E8 := E7.drewN n1
      have hv8 := hv7.ext ((Ext.refl u7).drewN n1)
      have Z8 := Z7.ext ((Ext.refl u7).drewN n1)
      have U8 := U7.ext ((Ext.refl u7).drewN n1)
      generalize u7.drewN n1 = u8 at *
      clear E7 hv7 X7 Z7 U7 S1'
      have S2 := sameInts_self b4 av d4 cv v u8 Z8 hv8 (by omega)
      have S2' := Lib.hid S2
      clear S2
      go_wp2_with fail
      (with_reducible refine S2'.out.mono ?_)
      rintro e w' ⟨rfl, n2, rfl⟩
      have E9 := E8.drewN n2
      have hv9 := hv8.ext ((Ext.refl u8).drewN n2)
      have U9 := U8.ext ((Ext.refl u8).drewN n2)
      generalize u8.drewN n2 = u9 at *
      clear E8 hv8 Z8 U8 S2'
      have S3 := sameInts_self b6 av d6 cv v u9 U9 hv9 (by omega)
      have S3' := Lib.hid S3
      clear S3
      go_wp2_with fail
      (with_reducible refine S3'.out.mono ?_)
      rintro e w' ⟨rfl, n3, rfl⟩
      have E10 := E9.drewN n3
      have hv10 := hv9.ext ((Ext.refl u9).drewN n3)
      generalize u9.drewN n3 = u10 at *
      clear E9 hv9 U9 S3'
      go_wp2_with fail
      (with_reducible refine (CDn.out _ hv10).mono ?_)
      rintro e u11 ⟨b11, d11, rfl, o11, e11⟩
      have hv11 := hv10.ext e11
      go_wp2_with fail
      (with_reducible refine (CSp.out _ hv11).mono ?_)
      rintro e u12 ⟨b12, d12, rfl, o12, e12⟩
      have hv12 := hv11.ext e12
      have E12 := (E10.trans e11).trans e12
      clear hv10 hv11 e11 e12 o11 o12 E10
      go_wp2_with fail
      (with_reducible refine (specMin2_ok _ _ _).mono ?_)
      rintro e w' ⟨rfl, rfl⟩
      rw [← UMIN.out]
      go_wp2_with (first
        | (go_at_call 90; (with_reducible refine (CDe.out _ hv12).mono ?_); rintro e w' ⟨rfl, rfl⟩)
        | (go_at_call 91; (with_reducible refine (implCountNonzero_ok _ _ _ _ hv12 (by omega)).mono ?_); rintro e w' ⟨rfl, rfl⟩)
        | (go_at_call 92; (with_reducible refine (specLeadingIndex_ok _ _ _ _ hv12 (by omega)).mono ?_); rintro e w' ⟨rfl, rfl⟩))
      go_ret
      exact ⟨rfl, E12⟩
  · go_wp2_with fail
    (with_reducible refine (implEncodeDense_ok a3 c3 y w4 vy4 (by omega)).mono ?_)
    rintro e w5 ⟨a5, c5, rfl, o5, e5⟩
    have hlen := encDense_len y
    have Q := sameBytes_ok a5 ab c5 cb (encDense y) ys w5 o5.vals (hy4.ext e5) (by omega)
    rw [h2] at Q
    have hv5 := hv4.ext e5
    have E5 := E4.trans e5
    have vy5 := vy4.ext e5
    have hy5 := hy4.ext e5
    clear vy4 hv4 o5 e5 E4 hy4
    go_wp2_with fail
    (with_reducible refine Q.mono ?_)
    rintro e w6 ⟨rfl, n6, rfl⟩
    have hv6 := hv5.ext ((Ext.refl w5).drewN n6)
    have vy6 := vy5.ext ((Ext.refl w5).drewN n6)
    have hy6 := hy5.ext ((Ext.refl w5).drewN n6)
    have E6 := E5.drewN n6
    clear hv5 E5 Q vy5 hy5
    generalize w5.drewN n6 = wy at *
    go_wp2_with fail
    (with_reducible refine (implEncodeSparse_ok a3 c3 y wy vy6 (by omega)).mono ?_)
    rintro e w7 ⟨a7, c7, rfl, o7, e7⟩
    have hlen := encSparse_len y
    have Q := sameBytes_ok a7 ab c7 cb (encSparse y) ys w7 o7.vals (hy6.ext e7) (by omega)
    rw [h3] at Q
    have hv7 := hv6.ext e7
    have E7 := E6.trans e7
    clear vy6 hv6 o7 e7 E6 hy6
    go_wp2_with fail
    (with_reducible refine Q.mono ?_)
    rintro e w8 ⟨rfl, n8, rfl⟩
    have hv4 := hv7.ext ((Ext.refl w7).drewN n8)
    have E4 := E7.drewN n8
    clear hv7 E7 Q
    generalize w7.drewN n8 = wz at *
    go_wp2_with fail
    cases hval : validV v
    · have HU0 := UNO.out hval
      subst HU0
      go_wp2_with (go_at_call 66; (with_reducible refine (specIsValidVector_ok _ _ _ _ hv4 (by omega)).mono ?_); rintro e w' ⟨rfl, rfl⟩; rw [hval])
      (with_reducible refine (CCo.out _ hv4).mono ?_)
      rintro e w9 ⟨a9, c9, rfl, o9, e9⟩
      go_wp2_with fail
      go_ret
      exact ⟨rfl, E4.trans e9⟩
    · have DC := Lib.hid (DEC.out hval)
      go_wp2_with (go_at_call 66; (with_reducible refine (specIsValidVector_ok _ _ _ _ hv4 (by omega)).mono ?_); rintro e w' ⟨rfl, rfl⟩; rw [hval])
      (with_reducible refine (CDn.out _ hv4).mono ?_)
      rintro e u1 ⟨b1, d1, rfl, o1, e1⟩
      have E1 := E4.trans e1
      have hv1 := hv4.ext e1
      go_wp2_with fail
      (with_reducible refine ((DC.out u1 b1 d1).1 o1.vals).mono ?_)
      rintro e u2 ⟨b2, d2, rfl, o2, e2⟩
      have E2 := E1.trans e2
      have hv2 := hv1.ext e2
      have X2 := o2.vals
      clear E4 hv4 o1 e1 E1 hv1 o2
      go_wp2_with fail
      (with_reducible refine (CSp.out _ hv2).mono ?_)
      rintro e u3 ⟨b3, d3, rfl, o3, e3⟩
      have E3 := E2.trans e3
      have hv3 := hv2.ext e3
      have X3 := X2.ext e3
      go_wp2_with fail
      (with_reducible refine ((DC.out u3 b3 d3).2.1 o3.vals).mono ?_)
      rintro e u4 ⟨b4, d4, rfl, o4, e4⟩
      have E4 := E3.trans e4
      have hv4 := hv3.ext e4
      have X4 := X3.ext e4
      have Z4 := o4.vals
      clear E2 hv2 X2 e2 e3 o3 E3 hv3 X3 o4 e4
      go_wp2_with fail
      (with_reducible refine (CCo.out _ hv4).mono ?_)
      rintro e u5 ⟨b5, d5, rfl, o5, e5⟩
      go_wp2_with fail
      (with_reducible refine ((DC.out u5 b5 d5).2.2 o5.vals).mono ?_)
      rintro e u6 ⟨b6, d6, rfl, o6, e6⟩
      have e56 := e5.trans e6
      have E6 := E4.trans e56
      have hv6 := hv4.ext e56
      have X6 := X4.ext e56
      have Z6 := Z4.ext e56
      have U6 := o6.vals
      clear E4 hv4 X4 Z4 e5 e6 e56 o5 o6
      go_wp2_with fail
      (with_reducible refine (CSz.out _ hv6).mono ?_)
      rintro e u7 ⟨rfl, e7⟩
      have E7 := E6.trans e7
      have hv7 := hv6.ext e7
      have X7 := X6.ext e7
      have Z7 := Z6.ext e7
      have U7 := U6.ext e7
      clear E6 hv6 X6 Z6 U6 e7
      have S1 := sameInts_self b2 av d2 cv v u7 X7 hv7 (by omega)
      have S1' := Lib.hid S1
      clear S1
      go_wp2_with fail
      (with_reducible refine S1'.out.mono ?_)
      rintro e w' ⟨rfl, n1, rfl⟩
      have E8 := E7.drewN n1
      have hv8 := hv7.ext ((Ext.refl u7).drewN n1)
      have Z8 := Z7.ext ((Ext.refl u7).drewN n1)
      have U8 := U7.ext ((Ext.refl u7).drewN n1)
      generalize u7.drewN n1 = u8 at *
      clear E7 hv7 X7 Z7 U7 S1'
      have S2 := sameInts_self b4 av d4 cv v u8 Z8 hv8 (by omega)
      have S2' := Lib.hid S2
      clear S2
      go_wp2_with fail
      (with_reducible refine S2'.out.mono ?_)
      rintro e w' ⟨rfl, n2, rfl⟩
      have E9 := E8.drewN n2
      have hv9 := hv8.ext ((Ext.refl u8).drewN n2)
      have U9 := U8.ext ((Ext.refl u8).drewN n2)
      generalize u8.drewN n2 = u9 at *
      clear E8 hv8 Z8 U8 S2'
      have S3 := sameInts_self b6 av d6 cv v u9 U9 hv9 (by omega)
      have S3' := Lib.hid S3
      clear S3
      go_wp2_with fail
      (with_reducible refine S3'.out.mono ?_)
      rintro e w' ⟨rfl, n3, rfl⟩
      have E10 := E9.drewN n3
      have hv10 := hv9.ext ((Ext.refl u9).drewN n3)
      generalize u9.drewN n3 = u10 at *
      clear E9 hv9 U9 S3'
      go_wp2_with fail
      (with_reducible refine (CDn.out _ hv10).mono ?_)
      rintro e u11 ⟨b11, d11, rfl, o11, e11⟩
      have hv11 := hv10.ext e11
      go_wp2_with fail
      (with_reducible refine (CSp.out _ hv11).mono ?_)
      rintro e u12 ⟨b12, d12, rfl, o12, e12⟩
      have hv12 := hv11.ext e12
      have E12 := (E10.trans e11).trans e12
      clear hv10 hv11 e11 e12 o11 o12 E10
      go_wp2_with fail
      (with_reducible refine (specMin2_ok _ _ _).mono ?_)
      rintro e w' ⟨rfl, rfl⟩
      rw [← UMIN.out]
      go_wp2_with (first
        | (go_at_call 90; (with_reducible refine (CDe.out _ hv12).mono ?_); rintro e w' ⟨rfl, rfl⟩)
        | (go_at_call 91; (with_reducible refine (implCountNonzero_ok _ _ _ _ hv12 (by omega)).mono ?_); rintro e w' ⟨rfl, rfl⟩)
        | (go_at_call 92; (with_reducible refine (specLeadingIndex_ok _ _ _ _ hv12 (by omega)).mono ?_); rintro e w' ⟨rfl, rfl⟩))
      go_ret
      exact ⟨rfl, E12⟩

end Go.Proofs.Ytkegknophppdgaa
