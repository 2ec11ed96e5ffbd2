/- Contract of the reference's Determinant. -/
import Derived.Test.YtninamlcffemoaaDetW
namespace Go.Proofs.Ytninamlcffemoaa
open Go.RowKit
set_option linter.unusedVariables false
set_option maxRecDepth 20000

theorem neg_mul {d : Int} (h1 : 0 ≤ d) (h2 : d ≤ 1018) : d * 1018 % 1019 = (0 - d) % 1019 := by omega
theorem neg_el (d : Int) : 0 ≤ (0 - d) % 1019 ∧ (0 - d) % 1019 ≤ 1018 := by omega

set_option maxHeartbeats 16000000 in
set_option maxRecDepth 100000 in
theorem specDeterminant_ok (a : Option Addr) (c : Nat) (m : List (List Int)) (w : World) (h : MatR w a m) (hl : m.length ≤ 1048576) (hr : ∀ xs ∈ m, xs.length ≤ 1048576) :
    Calls Try.prog 15 #[.slice a m.length c] w (Gives w (.int .i64 (detM m))) := by
  have Q := Lib.hid (specSquare_ok a c m w h hl hr)
  cases q1 : (validM m && decide (m.length = cols m))
  · have HD := Lib.hid (detM_bad q1)
    rw [q1] at Q
    clear hr
    go_enter Try.func15, Try.ntmps15
    go_wp2_with fail
    (with_reducible refine Q.out.mono ?_)
    rintro e w1 ⟨rfl, q, rfl⟩
    go_wp2_with fail
    go_ret
    exact ⟨ret_int HD.out.symm, (Ext.refl w).drewN q⟩
  have HD := Lib.hid (detM_good q1)
  rw [q1] at Q
  rw [Bool.and_eq_true, decide_eq_true_eq] at q1
  obtain ⟨v1, v2⟩ := validM_true.1 q1.1
  obtain ⟨L, hL⟩ : ∃ L, Hid (L = m.length) := ⟨_, rfl⟩
  have HV : Hid (VR L m) := by rw [hL.out, q1.2]; exact v1
  have hL40 : L ≤ 40 := by rw [hL.out]; exact v2
  have HR := Lib.hid hr
  clear v1 q1 hr
  go_enter Try.func15, Try.ntmps15
  go_wp2_with fail
  (with_reducible refine Q.out.mono ?_)
  rintro e w1 ⟨rfl, q, rfl⟩
  have E0 := (Ext.refl w).drewN q
  generalize w.drewN q = w0 at *
  go_wp2_with fail
  (with_reducible refine (specCopy_ok _ _ _ _ (h.ext E0) hl HR.out).mono ?_)
  rintro e w1 ⟨a1, c1, rfl, o1, e1⟩
  have E1 := E0.trans e1
  have O1 := o1.mono (C := w.heap.size) (C2 := w1.heap.size) E0.size_le (Nat.le_refl _)
  clear o1 e1 E0 Q
  rw [← hL.out]
  go_wp2_with fail
  go_loopw [4, 5] (fun d k wr => ∃ (j : Nat) (rows : List (List Int)) (x : Int), k = .int .i64 j ∧ d = .int .i64 x ∧ j ≤ L ∧ Hid (detTo m j = some (rows, x)) ∧ OM wr w.heap.size wr.heap.size a1 c1 rows ∧ Ext w wr) (fun _ k _ => L - (intOf k).toNat)
  case atStart => exact ⟨0, m, 1, rfl, rfl, Nat.zero_le _, rfl, O1, E1⟩
  case round =>
    clear O1 E1
    obtain ⟨j, rows, d, rfl, rfl, hj, HG, ho, he⟩ := hrel
    have HL : Hid (rows.length = L) := by rw [detTo_len HG.out]; exact Lib.hid hL.out.symm
    have hvr := detTo_VR hL40 HV.out (by rw [hL.out]; exact Nat.le_refl _) (by rw [← hL.out]; exact hj) HG.out
    have HVR := Lib.hid hvr.1
    obtain ⟨d1, d2⟩ := hvr.2
    clear hvr
    by_cases hjL : j < L
    rotate_left
    · have HE : Hid (detI m = d) := detI_end (by rw [← hL.out, show L = j by omega]; exact HG.out)
      go_wp2_with fail
      go_ret
      exact ⟨ret_int (by rw [HD.out, HE.out]), he⟩
    have hLr : L ≤ rows.length := by rw [HL.out]; exact Nat.le_refl _
    obtain ⟨g, rfl, g1, g2, g3⟩ := ho.form (by omega)
    have HO := Lib.hid ho
    clear ho
    go_wp2_with fail
    go_loop [6] (fun p => ∃ q : Nat, p = .int .i64 q ∧ j ≤ q ∧ q ≤ L ∧ Hid (∀ i, j ≤ i → i < q → ent (rows.getD i []) j = 0)) (fun p => L - (intOf p).toNat)
    case atStart => exact ⟨j, rfl, Nat.le_refl _, by omega, fun i h1 h2 => by omega⟩
    case round =>
      obtain ⟨q, rfl, hq1, hq2, HZ⟩ := hrel
      by_cases hq : q < L
      rotate_left
      · have HS : Hid (detI m = 0) := detI_stop HG.out (by rw [← hL.out]; exact hjL) (by
          have : pivAt rows j j = q := pivAt_eq hq1 (by omega) HZ.out (fun e => by rw [HL.out] at e; omega)
          rw [this, HL.out]; exact hq)
        have hqe : ((q : Int) == (L : Int)) = true := by simp; omega
        go_wp2_with fail
        go_ret
        exact ⟨ret_int (by rw [HD.out, HS.out]), he⟩
      have hrow := HVR.out.getD (show q < rows.length by omega)
      obtain ⟨rb, rc, k1, k2, k3, k4, k5⟩ := HO.out.num (i := q) (j := j) (by omega) (by omega)
      obtain ⟨xs, hxs⟩ : ∃ xs, Hid (xs = rows.getD q []) := ⟨_, rfl⟩
      obtain ⟨x, hx⟩ : ∃ x, Hid (x = ent xs j) := ⟨_, rfl⟩
      rw [← hxs.out] at hrow k1 k2 k5
      rw [← hx.out] at k5
      have HROW := Lib.hid hrow
      have K2 := Lib.hid k2
      have i1 : (q : Int) < (L : Int) := by omega
      have i2 : (j : Int) < (xs.length : Int) := by omega
      have i5 : (j : Int) < (L : Int) := by omega
      have hqe : ((q : Int) == (L : Int)) = false := by simp; omega
      clear hrow k2
      by_cases hx0 : x = 0
      · have hx1 : (x == 0) = true := by simpa using hx0
        have HZ' : Hid (∀ i, j ≤ i → i < q + 1 → ent (rows.getD i []) j = 0) := fun i h1 h2 => by
          by_cases e : i = q
          · rw [e, ← hxs.out, ← hx.out]; exact hx0
          · exact HZ.out i h1 (by omega)
        clear hx0
        go_wp2_with fail
        go_round
        case rel => exact ⟨q + 1, by go_num, by omega, by omega, HZ'⟩
        case measure => simp [intOf]; omega
      have hx1 : (x == 0) = false := by simpa using hx0
      have hpq : Hid (pivAt rows j j = q) := pivAt_eq hq1 (by omega) HZ.out (fun _ => by rw [← hxs.out, ← hx.out]; exact hx0)
      have HX : Hid (inR x 0 1018 = true) := by rw [hx.out]; exact inR_true.2 (ent_range HROW.out.1 _)
      obtain ⟨dd, hdd⟩ : ∃ dd, Hid (dd = detD rows j q d) := ⟨_, rfl⟩
      have HGO : Hid (detTo m (j + 1) = some (dclTo (dSwap rows j q) xs j (invI x) L, dd)) := by
        have := detTo_go HG.out (by rw [hpq.out]; omega)
        rw [hpq.out] at this
        rw [this, hdd.out]
        unfold detRows
        rw [← hxs.out, ← hx.out, HL.out]
        exact Lib.hid rfl
      have HDD : Hid (dd = (if q = j then d else (0 - d) % 1019) * x % 1019) := by rw [hdd.out]; unfold detD; rw [← hxs.out, ← hx.out]; exact Lib.hid rfl
      obtain ⟨S, hS⟩ : ∃ S, Hid (S = dSwap rows j q) := ⟨_, rfl⟩
      have HSV : Hid (VR L S) := by rw [hS.out]; exact dSwap_VR hL40 HVR.out (by omega) (by omega)
      have HSL : Hid (S.length = L) := by rw [hS.out, dSwap_length]; exact HL
      have HSJ : Hid (S.getD j [] = xs) := by rw [hS.out, dSwap_getD (by omega) (by omega), if_pos rfl]; exact hxs.out.symm
      rw [← hS.out] at HGO
      have hiv := invI_range (inR_true.1 HX.out).1 (inR_true.1 HX.out).2
      have HIV : Hid (inR (invI x) 0 1018 = true) := inR_true.2 hiv
      obtain ⟨iv, hive⟩ : ∃ iv, Hid (iv = invI x) := ⟨_, rfl⟩
      rw [← hive.out] at HIV HGO
      have HXX := Lib.hid hx0
      clear hx0 hiv
      by_cases hqj : q = j
      · have hqj' : ((q : Int) != (j : Int)) = false := by simp [hqj]
        have HDV : Hid (d * x % 1019 = dd) := by rw [HDD.out, if_pos hqj]; exact Lib.hid rfl
        have HDR : Hid (inR d 0 1018 = true) := inR_true.2 ⟨d1, d2⟩
        have HM : Hid (OM wr w.heap.size wr.heap.size (some ⟨g, 0, none⟩) c1 S) := by rw [hS.out, hqj, dSwap_self (by omega)]; exact HO
        have HEW := Lib.hid he
        obtain ⟨rbj, rcj, m1, _, _, _, m5⟩ := HM.out.num (i := j) (j := j) (by rw [HSL.out]; exact hjL) (by rw [HSJ.out]; omega)
        rw [HSJ.out] at m1 m5
        rw [← hx.out] at m5
        clear hqj he HO k3 k4 K2
        go_wp2_with fail
        (with_reducible refine (specMulField_ok _ _ _ HDR.out HX.out).mono ?_)
        rintro e w4 ⟨rfl, rfl⟩
        rw [HDV.out]
        go_wp2_with fail
        (with_reducible refine (specInverseField_ok _ _ HX.out).mono ?_)
        rintro e w4 ⟨rfl, rfl⟩
        rw [← hive.out]
        go_wp2_with fail
        go_loopw [9] (fun i wv => ∃ t : Nat, i = .int .i64 t ∧ j + 1 ≤ t ∧ t ≤ L ∧ OM wv w.heap.size wv.heap.size (some ⟨g, 0, none⟩) c1 (dclTo S xs j iv t) ∧ Ext w wv) (fun i _ => L - (intOf i).toNat)
        case atStart => exact ⟨j + 1, by go_num, Nat.le_refl _, by omega, by rw [dclTo_start]; exact HM.out, HEW.out⟩
        case round =>
          obtain ⟨t, rfl, ht1, ht2, M, E⟩ := hrel
          clear HM HEW m1 m5
          have hSl : L ≤ S.length := by rw [HSL.out]; exact Nat.le_refl _
          by_cases htL : t < L
          rotate_left
          · obtain rfl : t = L := by omega
            go_wp2_with fail
            go_roundw
            case rel => exact ⟨j + 1, _, dd, by go_num, rfl, by omega, HGO, M, E⟩
            case measure => simp [intOf]; omega
          obtain ⟨C, hC⟩ : ∃ C, Hid (C = dclTo S xs j iv t) := ⟨_, rfl⟩
          have hCl : Hid (C.length = L) := by rw [hC.out, dclTo_length]; exact HSL
          have hCL : L ≤ C.length := by rw [hCl.out]; exact Nat.le_refl _
          have hCt : Hid (C.getD t [] = S.getD t []) := by rw [hC.out, getD_some (dclTo_get (getD_get (show t < S.length by omega))), if_neg (by omega)]; exact Lib.hid rfl
          have hCj : Hid (C.getD j [] = xs) := by rw [hC.out, getD_some (dclTo_get (getD_get (show j < S.length by omega))), if_neg (by omega)]; exact HSJ
          have hrow2 := HSV.out.getD (show t < S.length by omega)
          rw [← hC.out] at M
          obtain ⟨rb2, rc2, n1, n2, n3, n4, n5⟩ := M.num (i := t) (j := j) (by omega) (by rw [hCt.out]; omega)
          obtain ⟨ra4, rc4, r1, r2, r3, r4⟩ := M.row (i := j) (by omega)
          rw [hCt.out] at n1 n2 n5
          rw [hCj.out] at r1 r2
          obtain ⟨ys, hys⟩ : ∃ ys, Hid (ys = S.getD t []) := ⟨_, rfl⟩
          obtain ⟨y, hy⟩ : ∃ y, Hid (y = ent ys j) := ⟨_, rfl⟩
          rw [← hys.out] at n1 n2 n5 hrow2
          rw [← hy.out] at n5
          have i6 : (t : Int) < (L : Int) := by omega
          have i7 : (j : Int) < (ys.length : Int) := by omega
          have HR2 := Lib.hid hrow2
          have HMM := Lib.hid M
          have N2 := Lib.hid n2
          have R2 := Lib.hid r2
          have HYR : Hid (inR y 0 1018 = true) := by rw [hy.out]; exact inR_true.2 (ent_range HR2.out.1 _)
          obtain ⟨p1, hp1⟩ : ∃ p1, Hid (p1 = y * iv % 1019) := ⟨_, rfl⟩
          have HP1 : Hid (inR p1 0 1018 = true) := by rw [hp1.out]; exact inR_true.2 (mod_el _)
          obtain ⟨z, hz⟩ : ∃ z, Hid (z = (0 - p1) % 1019) := ⟨_, rfl⟩
          have HZR : Hid (inR z 0 1018 = true) := by rw [hz.out]; exact inR_true.2 (neg_el _)
          obtain ⟨zs, hzs⟩ : ∃ zs, Hid (zs = addS ys xs z) := ⟨_, rfl⟩
          have hk : Hid (dclTo S xs j iv (t + 1) = C.set t zs) := by
            rw [dclTo_succ (getD_get (show t < S.length by omega)) (by omega), ← hC.out, ← hys.out, hzs.out, hz.out, hp1.out]
            unfold dcl dk
            rw [← hy.out]
            exact Lib.hid rfl
          have A1 : Hid (∀ W : World, Calls Try.prog 31 #[.int .i64 y, .int .i64 iv] W fun e w' => e = .returned (.int .i64 p1) ∧ W = w') := fun W => by rw [hp1.out]; exact specMulField_ok y iv W HYR.out HIV.out
          have A2 : Hid (∀ W : World, Calls Try.prog 78 #[.int .i64 0, .int .i64 p1] W fun e w' => e = .returned (.int .i64 z) ∧ W = w') := fun W => by rw [hz.out]; exact specSubField_ok 0 p1 W rfl HP1.out
          have A3 : Hid (∀ W : World, Ext wr W → Calls Try.prog 77 #[.slice (some ⟨rb2, 0, none⟩) ys.length rc2, .slice ra4 xs.length rc4, .int .i64 z] W (NewI W zs)) := fun W hW => by
            rw [hzs.out]
            exact specAddScaled_ok _ _ _ _ _ _ _ W (N2.out.vals.ext hW) (R2.out.vals.ext hW) (validV_true.2 ⟨HR2.out.1, HR2.out.2.2⟩) (validV_true.2 ⟨HROW.out.1, HROW.out.2.2⟩) (by rw [HR2.out.2.1, HROW.out.2.1]) HZR.out
          have D1 : Hid (∀ W : World, Ext wr.drew W → W.cell? ⟨g, t, none⟩ = some (.slice (some ⟨rb2, 0, none⟩) ys.length rc2)) := fun W hW => hW.cell n1
          have F1 : Hid (∀ W : World, Ext wr.drew W → W.frozen? ⟨g, t, none⟩ = false) := fun W hW => (hW.look.2 g t (World.block_lt_of_cell? _ _ n1)).trans n3
          clear hrow2 M n2 r2 r4
          go_wp2_with fail
          go_region_with (first
            | (go_at_call 31; (with_reducible refine (A1.out _).mono ?_); rintro e w3 ⟨rfl, rfl⟩)
            | (go_at_call 78; (with_reducible refine (A2.out _).mono ?_); rintro e w3 ⟨rfl, rfl⟩)
            | (go_at_call 77; (with_reducible refine (A3.out _ (Ext.refl wr).drew).mono ?_); rintro e w4 ⟨a4, c4, rfl, o4, e4⟩; have f4 := F1.out w4 e4; have d4 := D1.out w4 e4))
          all_goals
            have e4' : Ext wr w4 := (Ext.refl wr).drew.trans e4
            have P4 := (HMM.out.ext e4').put (i := t) ((OI.of o4).mono (C := wr.heap.size) (Nat.le_refl _) (Nat.le_refl _)) E.size_le e4'.size_le (by omega)
            have E4 := (E.trans e4').setCell (p := ⟨g, t, none⟩) g1 (.slice a4 zs.length c4)
            rw [← hk.out] at P4
            clear A1 A2 A3 F1 D1 o4 e4 e4' HMM E n1 n3 n5 r1 r3 f4 d4
            go_wp2_with fail
            go_roundw
            case rel => exact ⟨t + 1, by go_num, by omega, by omega, P4.mono (Nat.le_refl _) (by simp), E4⟩
            case measure => simp [intOf]; omega
      · have hqj' : ((q : Int) != (j : Int)) = true := by simp; omega
        have HDV : Hid ((0 - d) % 1019 * x % 1019 = dd) := by rw [HDD.out, if_neg hqj]; exact Lib.hid rfl
        have HDR : Hid (inR ((0 - d) % 1019) 0 1018 = true) := inR_true.2 (neg_el d)
        obtain ⟨rk, ck, rp, cp, x1, x2, x3, x4, _⟩ := HO.out.exch (k := j) (p := q) (by omega) (by omega)
        rw [← hxs.out] at x2 x4
        have hrp : rp = some ⟨rb, 0, none⟩ ∧ cp = rc := by
          rw [k1] at x2
          injection x2 with x2
          injection x2 with y1 y2 y3
          exact ⟨y1.symm, y3.symm⟩
        rw [hrp.1, hrp.2] at x4
        clear x2 hrp
        obtain ⟨ks, hks⟩ : ∃ ks, Hid (ks = rows.getD j []) := ⟨_, rfl⟩
        rw [← hks.out] at x1 x4
        rw [← hS.out] at x4
        have y1 := x3 j
        have y2 := x3 q
        have HM := Lib.hid (x4.mono (C := w.heap.size) (C2 := ((wr.setCell ⟨g, q, none⟩ (.slice rk ks.length ck)).setCell ⟨g, j, none⟩ (.slice (some ⟨rb, 0, none⟩) xs.length rc)).heap.size) (Nat.le_refl _) (by simp))
        have HEW := Lib.hid ((he.setCell (p := ⟨g, q, none⟩) g1 (.slice rk ks.length ck)).setCell (p := ⟨g, j, none⟩) g1 (.slice (some ⟨rb, 0, none⟩) xs.length rc))
        obtain ⟨rbj, rcj, m1, _, _, m4, m5⟩ := HM.out.num (i := j) (j := j) (by rw [HSL.out]; exact hjL) (by rw [HSJ.out]; omega)
        rw [HSJ.out] at m1 m5
        rw [← hx.out] at m5
        have HNE : Hid (IntKind.i64.wrap 0 = 0) := Lib.hid rfl
        have kj : (wr.setCell ⟨g, q, none⟩ (.slice rk ks.length ck)).cell? ⟨g, j, none⟩ = some (.slice rk ks.length ck) := (World.cell?_setCell_other _ _ _ _ (by simp <;> omega)).trans x1
        clear hqj he HO k3 k4 K2 x3 x4
        go_wp2_with fail
        generalize (wr.setCell ⟨g, q, none⟩ (.slice rk ks.length ck)).setCell ⟨g, j, none⟩ (.slice (some ⟨rb, 0, none⟩) xs.length rc) = W at *
        (with_reducible refine (specMulField_ok d 1018 _ (inR_true.2 ⟨d1, d2⟩) rfl).mono ?_)
        rintro e w4 ⟨rfl, rfl⟩
        rw [neg_mul d1 d2]
        go_wp2_with fail
        try rw [show -d = 0 - d by omega]
        (with_reducible refine (specMulField_ok _ _ _ HDR.out HX.out).mono ?_)
        rintro e w4 ⟨rfl, rfl⟩
        rw [HDV.out]
        go_wp2_with fail
        (with_reducible refine (specInverseField_ok _ _ HX.out).mono ?_)
        rintro e w4 ⟨rfl, rfl⟩
        rw [← hive.out]
        go_wp2_with fail
        go_loopw [9] (fun i wv => ∃ t : Nat, i = .int .i64 t ∧ j + 1 ≤ t ∧ t ≤ L ∧ OM wv w.heap.size wv.heap.size (some ⟨g, 0, none⟩) c1 (dclTo S xs j iv t) ∧ Ext w wv) (fun i _ => L - (intOf i).toNat)
        case atStart => exact ⟨j + 1, by go_num, Nat.le_refl _, by omega, by rw [dclTo_start]; exact HM.out, HEW.out⟩
        case round =>
          obtain ⟨t, rfl, ht1, ht2, M, E⟩ := hrel
          clear HM HEW m1 m5
          have hSl : L ≤ S.length := by rw [HSL.out]; exact Nat.le_refl _
          by_cases htL : t < L
          rotate_left
          · obtain rfl : t = L := by omega
            go_wp2_with fail
            go_roundw
            case rel => exact ⟨j + 1, _, dd, by go_num, rfl, by omega, HGO, M, E⟩
            case measure => simp [intOf]; omega
          obtain ⟨C, hC⟩ : ∃ C, Hid (C = dclTo S xs j iv t) := ⟨_, rfl⟩
          have hCl : Hid (C.length = L) := by rw [hC.out, dclTo_length]; exact HSL
          have hCL : L ≤ C.length := by rw [hCl.out]; exact Nat.le_refl _
          have hCt : Hid (C.getD t [] = S.getD t []) := by rw [hC.out, getD_some (dclTo_get (getD_get (show t < S.length by omega))), if_neg (by omega)]; exact Lib.hid rfl
          have hCj : Hid (C.getD j [] = xs) := by rw [hC.out, getD_some (dclTo_get (getD_get (show j < S.length by omega))), if_neg (by omega)]; exact HSJ
          have hrow2 := HSV.out.getD (show t < S.length by omega)
          rw [← hC.out] at M
          obtain ⟨rb2, rc2, n1, n2, n3, n4, n5⟩ := M.num (i := t) (j := j) (by omega) (by rw [hCt.out]; omega)
          obtain ⟨ra4, rc4, r1, r2, r3, r4⟩ := M.row (i := j) (by omega)
          rw [hCt.out] at n1 n2 n5
          rw [hCj.out] at r1 r2
          obtain ⟨ys, hys⟩ : ∃ ys, Hid (ys = S.getD t []) := ⟨_, rfl⟩
          obtain ⟨y, hy⟩ : ∃ y, Hid (y = ent ys j) := ⟨_, rfl⟩
          rw [← hys.out] at n1 n2 n5 hrow2
          rw [← hy.out] at n5
          have i6 : (t : Int) < (L : Int) := by omega
          have i7 : (j : Int) < (ys.length : Int) := by omega
          have HR2 := Lib.hid hrow2
          have HMM := Lib.hid M
          have N2 := Lib.hid n2
          have R2 := Lib.hid r2
          have HYR : Hid (inR y 0 1018 = true) := by rw [hy.out]; exact inR_true.2 (ent_range HR2.out.1 _)
          obtain ⟨p1, hp1⟩ : ∃ p1, Hid (p1 = y * iv % 1019) := ⟨_, rfl⟩
          have HP1 : Hid (inR p1 0 1018 = true) := by rw [hp1.out]; exact inR_true.2 (mod_el _)
          obtain ⟨z, hz⟩ : ∃ z, Hid (z = (0 - p1) % 1019) := ⟨_, rfl⟩
          have HZR : Hid (inR z 0 1018 = true) := by rw [hz.out]; exact inR_true.2 (neg_el _)
          obtain ⟨zs, hzs⟩ : ∃ zs, Hid (zs = addS ys xs z) := ⟨_, rfl⟩
          have hk : Hid (dclTo S xs j iv (t + 1) = C.set t zs) := by
            rw [dclTo_succ (getD_get (show t < S.length by omega)) (by omega), ← hC.out, ← hys.out, hzs.out, hz.out, hp1.out]
            unfold dcl dk
            rw [← hy.out]
            exact Lib.hid rfl
          have A1 : Hid (∀ W : World, Calls Try.prog 31 #[.int .i64 y, .int .i64 iv] W fun e w' => e = .returned (.int .i64 p1) ∧ W = w') := fun W => by rw [hp1.out]; exact specMulField_ok y iv W HYR.out HIV.out
          have A2 : Hid (∀ W : World, Calls Try.prog 78 #[.int .i64 0, .int .i64 p1] W fun e w' => e = .returned (.int .i64 z) ∧ W = w') := fun W => by rw [hz.out]; exact specSubField_ok 0 p1 W rfl HP1.out
          have A3 : Hid (∀ W : World, Ext wr W → Calls Try.prog 77 #[.slice (some ⟨rb2, 0, none⟩) ys.length rc2, .slice ra4 xs.length rc4, .int .i64 z] W (NewI W zs)) := fun W hW => by
            rw [hzs.out]
            exact specAddScaled_ok _ _ _ _ _ _ _ W (N2.out.vals.ext hW) (R2.out.vals.ext hW) (validV_true.2 ⟨HR2.out.1, HR2.out.2.2⟩) (validV_true.2 ⟨HROW.out.1, HROW.out.2.2⟩) (by rw [HR2.out.2.1, HROW.out.2.1]) HZR.out
          have D1 : Hid (∀ W : World, Ext wr.drew W → W.cell? ⟨g, t, none⟩ = some (.slice (some ⟨rb2, 0, none⟩) ys.length rc2)) := fun W hW => hW.cell n1
          have F1 : Hid (∀ W : World, Ext wr.drew W → W.frozen? ⟨g, t, none⟩ = false) := fun W hW => (hW.look.2 g t (World.block_lt_of_cell? _ _ n1)).trans n3
          clear hrow2 M n2 r2 r4
          go_wp2_with fail
          go_region_with (first
            | (go_at_call 31; (with_reducible refine (A1.out _).mono ?_); rintro e w3 ⟨rfl, rfl⟩)
            | (go_at_call 78; (with_reducible refine (A2.out _).mono ?_); rintro e w3 ⟨rfl, rfl⟩)
            | (go_at_call 77; (with_reducible refine (A3.out _ (Ext.refl wr).drew).mono ?_); rintro e w4 ⟨a4, c4, rfl, o4, e4⟩; have f4 := F1.out w4 e4; have d4 := D1.out w4 e4))
          all_goals
            have e4' : Ext wr w4 := (Ext.refl wr).drew.trans e4
            have P4 := (HMM.out.ext e4').put (i := t) ((OI.of o4).mono (C := wr.heap.size) (Nat.le_refl _) (Nat.le_refl _)) E.size_le e4'.size_le (by omega)
            have E4 := (E.trans e4').setCell (p := ⟨g, t, none⟩) g1 (.slice a4 zs.length c4)
            rw [← hk.out] at P4
            clear A1 A2 A3 F1 D1 o4 e4 e4' HMM E n1 n3 n5 r1 r3 f4 d4
            go_wp2_with fail
            go_roundw
            case rel => exact ⟨t + 1, by go_num, by omega, by omega, P4.mono (Nat.le_refl _) (by simp), E4⟩
            case measure => simp [intOf]; omega

end Go.Proofs.Ytninamlcffemoaa
