/- InvertMatrix: contracts of the program and the reference. -/
import Derived.Test.YtninamlcffemoaaInv
import Derived.Test.YtninamlcffemoaaNulW
import Derived.Test.YtninamlcffemoaaSys
namespace Go.Proofs.Ytninamlcffemoaa
open Go.RowKit
set_option linter.unusedVariables false
set_option maxRecDepth 20000

def NewMF (w : World) (xss : List (List Int)) (ok : Bool) (e : Ending) (w' : World) : Prop := ∃ a c, e = .returned (.tuple #[.slice a xss.length c, .bool ok]) ∧ OM w' w.heap.size w'.heap.size a c xss ∧ Ext w w'

variable {m : List (List Int)}
theorem aug_red (h : VR m.length m) (hn : m.length ≤ 20) : rowRed (aug m) = gj (aug m) (2 * m.length) := by
  have hw := aug_VR h hn
  by_cases h0 : m.length = 0
  · obtain rfl : m = [] := List.eq_nil_of_length_eq_zero h0
    exact rowRed_yes (m := []) rfl
  · have hcols : cols (aug m) = 2 * m.length := hw.cols (by rw [aug_length]; omega)
    rw [rowRed_yes (validM_true.2 ⟨by rw [hcols]; exact hw, by rw [aug_length]; omega⟩), hcols]
theorem inv_bad (h : invOk m = false) : invM m = [] := by unfold invM; rw [h]; rfl
theorem inv_sq (h : sqOk m = false) : invOk m = false ∧ invM m = [] := by
  have : invOk m = false := by unfold invOk; rw [h]; rfl
  exact ⟨this, inv_bad this⟩
theorem inv_lead (hs : sqOk m = true) {k : Nat} (hk : k < m.length) (h : ld ((gj (aug m) (2 * m.length)).getD k []) ≠ k) : invOk m = false ∧ invM m = [] := by
  obtain ⟨h1, h2, h3, h4⟩ := sqOk_parts hs
  have : invOk m = false := by
    unfold invOk
    rw [hs]
    refine decide_eq_false fun e => h ?_
    exact (inv_yes h4 h3 e).2 k hk
  exact ⟨this, inv_bad this⟩
theorem inv_full (hs : sqOk m = true) (h : ∀ k, k < m.length → ld ((gj (aug m) (2 * m.length)).getD k []) = k) : invOk m = true ∧ invM m = tails m.length (gj (aug m) (2 * m.length)) := by
  obtain ⟨h1, h2, h3, h4⟩ := sqOk_parts hs
  have hl : (gj (aug m) m.length).length = m.length := Classical.byContradiction fun e => by
    obtain ⟨i, hi, hne⟩ := inv_no h4 h3 e
    exact hne (h i hi)
  have hok : invOk m = true := by unfold invOk; rw [hs, decide_eq_true hl]; rfl
  refine ⟨hok, ?_⟩
  unfold invM
  rw [if_pos hok, (inv_yes h4 h3 hl).1]
theorem inv_short (hs : sqOk m = true) (h : (gj (aug m) m.length).length < m.length) : invOk m = false ∧ invM m = [] := by
  have : invOk m = false := by
    unfold invOk
    rw [hs]
    exact decide_eq_false (by omega)
  exact ⟨this, inv_bad this⟩
theorem inv_long (hs : sqOk m = true) (h : ¬ (gj (aug m) m.length).length < m.length) : invOk m = true ∧ invM m = tails m.length (gj (aug m) m.length) ∧ (gj (aug m) m.length).length = m.length := by
  obtain ⟨h1, h2, h3, h4⟩ := sqOk_parts hs
  obtain ⟨g1, g2, _⟩ := gj_red (k := m.length) (show 2 * m.length ≤ 40 by omega) (aug_VR h4 h3)
  rw [aug_length] at g2
  have hl : (gj (aug m) m.length).length = m.length := by omega
  have hok : invOk m = true := by unfold invOk; rw [hs, decide_eq_true hl]; rfl
  exact ⟨hok, by unfold invM; rw [if_pos hok], hl⟩
theorem Vals.dropR {w : World} {g o : Nat} {xs : List Int} (h : Vals w (some ⟨g, o, none⟩) (I xs)) (k : Nat) : Vals w (some ⟨g, o + k, none⟩) (I (xs.drop k)) := fun i hi => by
  simp at hi
  obtain ⟨b, o', ha, hc⟩ := h (k + i) (by simp; omega)
  injection ha with ha
  obtain ⟨rfl, rfl⟩ : g = b ∧ o = o' := by simpa using ha
  refine ⟨g, o + k, rfl, ?_⟩
  rw [Nat.add_assoc, hc]
  simp

set_option maxHeartbeats 8000000 in
set_option maxRecDepth 100000 in
theorem implInvertMatrix_ok (a : Option Addr) (c : Nat) (m : List (List Int)) (w : World) (h : MatR w a m) (hl : m.length ≤ 1048576) (hr : ∀ xs ∈ m, xs.length ≤ 1048576) :
    Calls Try.prog 20 #[.slice a m.length c] w (NewMF w (invM m) (invOk m)) := by
  have Q := Lib.hid (implIsValidMatrix_ok a c m w h (by omega) (fun xs hx => Nat.le_trans (hr xs hx) (by omega)))
  clear hr
  have bad : Hid (sqOk m = false → ∀ W, Ext w W → NewMF w (invM m) (invOk m) (.returned (.tuple #[.slice none 0 0, .bool false])) W) := fun hs W hW => by
    rw [(inv_sq hs).1, (inv_sq hs).2]
    exact ⟨none, 0, rfl, OM.nil _ _ _, hW⟩
  cases q1 : validM m
  · have HS : Hid (sqOk m = false) := by unfold sqOk; rw [q1]; exact Lib.hid rfl
    rw [q1] at Q
    go_enter Try.func20, Try.ntmps20
    go_wp2_with fail
    (with_reducible refine Q.out.mono ?_)
    rintro e w1 ⟨rfl, q, rfl⟩
    go_wp2_with fail
    go_ret2
    exact bad.out HS.out _ ((Ext.refl w).drewN q)
  rw [q1] at Q
  by_cases q2 : m.length = cols m
  rotate_left
  · have HS : Hid (sqOk m = false) := by unfold sqOk; rw [decide_eq_false q2]; simp [Hid]
    have q2' : ((m.length : Int) != (cols m : Int)) = true := by simp; omega
    clear q2
    go_enter Try.func20, Try.ntmps20
    go_wp2_with fail
    (with_reducible refine Q.out.mono ?_)
    rintro e w1 ⟨rfl, q, rfl⟩
    go_wp2_with (go_at_call 81; (with_reducible refine (implColumnsOf_ok _ _ _ _ (h.ext ((Ext.refl w).drewN q))).mono ?_); rintro e w' ⟨rfl, rfl⟩)
    go_ret2
    exact bad.out HS.out _ ((Ext.refl w).drewN q)
  have q2' : ((m.length : Int) != (cols m : Int)) = false := by simp [← q2]
  by_cases q3 : m.length ≤ 20
  rotate_left
  · have HS : Hid (sqOk m = false) := by unfold sqOk; rw [decide_eq_false q3]; simp [Hid]
    have q3' : (20 : Int) < (m.length : Int) := by omega
    clear q3 q2
    go_enter Try.func20, Try.ntmps20
    go_wp2_with fail
    (with_reducible refine Q.out.mono ?_)
    rintro e w1 ⟨rfl, q, rfl⟩
    go_wp2_with (go_at_call 81; (with_reducible refine (implColumnsOf_ok _ _ _ _ (h.ext ((Ext.refl w).drewN q))).mono ?_); rintro e w' ⟨rfl, rfl⟩)
    go_ret2
    exact bad.out HS.out _ ((Ext.refl w).drewN q)
  have q3' : ¬ (20 : Int) < (m.length : Int) := by omega
  have HS : Hid (sqOk m = true) := by unfold sqOk; rw [q1, decide_eq_true q2, decide_eq_true q3]; exact Lib.hid rfl
  have HV := Lib.hid (sqOk_parts HS.out).2.2.2
  have HRR := Lib.hid (aug_red HV.out q3)
  have HRM := Lib.hid (aug_rows HV.out q3)
  have HLD : Hid (∀ k, k < m.length → ld ((gj (aug m) (2 * m.length)).getD k []) ≠ k → invOk m = false ∧ invM m = []) := fun k hk h => inv_lead HS.out hk h
  have HAL := Lib.hid (inv_full HS.out)
  clear q2 bad q1
  go_enter Try.func20, Try.ntmps20
  go_wp2_with fail
  (with_reducible refine Q.out.mono ?_)
  rintro e w1 ⟨rfl, q, rfl⟩
  have E1 := (Ext.refl w).drewN q
  clear Q
  generalize w.drewN q = w1 at *
  go_wp2_with (go_at_call 81; (with_reducible refine (implColumnsOf_ok _ _ _ _ (h.ext E1)).mono ?_); rintro e w' ⟨rfl, rfl⟩)
  go_loopw [5, 29] (fun x i wr => ∃ (j : Nat) (a1 : Option Addr) (c1 : Nat) (yss : List (List Int)), j ≤ m.length ∧ i = .int .i64 j ∧ x = .slice a1 yss.length c1 ∧ Hid (yss = augTo m m.length j) ∧ OM wr w.heap.size wr.heap.size a1 c1 yss ∧ Ext w wr) (fun _ i _ => m.length - (intOf i).toNat)
  case atStart => exact ⟨0, none, 0, [], Nat.zero_le _, rfl, rfl, rfl, OM.nil _ _ _, E1⟩
  case round =>
    clear E1
    obtain ⟨j, a1, c1, yss, hj, rfl, rfl, HY, ho, he⟩ := hrel
    have hyl : yss.length ≤ 40 := by rw [HY.out, augTo_length]; omega
    by_cases hlt : j < m.length
    · obtain ⟨b1, o1, ra, rc, xs, rfl, hbl, hx, hc, hrow⟩ := (h.ext he).at_ hlt
      have hxl : xs.length ≤ 40 := (HV.out.ok hx.out).2.1
      have CU := Lib.hid (implUnitVector_ok m.length j wr hlt (by omega))
      obtain ⟨us, hus⟩ : ∃ us, Hid (us = unitV m.length j) := ⟨_, rfl⟩
      have hul : Hid (us.length = m.length) := by rw [hus.out, unitV_length]; exact Lib.hid rfl
      rw [← hus.out] at CU
      obtain ⟨ys, hys⟩ : ∃ ys, Hid (ys = xs ++ us) := ⟨_, rfl⟩
      obtain ⟨zss, hzs⟩ : ∃ zss, Hid (zss = yss ++ [ys]) := ⟨_, rfl⟩
      have HT : Hid (zss = augTo m m.length (j + 1)) := by
        rw [augTo_succ, getD_some hx.out, ← HY.out]
        show zss = yss ++ [xs ++ unitV m.length j]
        rw [← hus.out, ← hys.out]; exact hzs
      have hsz := he.size_le
      go_wp2_with fail
      (with_reducible refine CU.out.mono ?_)
      rintro e w2 ⟨a2, c2, rfl, o2, e2⟩
      have hul2 : us.length ≤ 40 := by rw [hul.out]; omega
      have hM := Mat.lit2 (e := 36) (c0 := rc) (c1 := c2) (hrow.ext e2) o2.vals
      have E2 := e2.alloc (.cells #[.slice ra xs.length rc, .slice a2 us.length c2] 36)
      have hcc := concatI_ok _ 2 _ [xs, us] _ hM (by simp) (by simp; omega)
      have hfl : [xs, us].flatten = ys := by rw [hys.out]; simp
      rw [hfl] at hcc
      have hcc2 : Calls Try.prog 91 #[.slice (some ⟨w2.heap.size, 0, none⟩) 2 2] (w2.alloc (.cells #[.slice ra xs.length rc, .slice a2 us.length c2] 36)) (NewI (w2.alloc (.cells #[.slice ra xs.length rc, .slice a2 us.length c2] 36)) ys) := hcc
      have HCC := Lib.hid hcc2
      have HE2 := Lib.hid E2
      clear hM hcc hcc2 hfl E2 o2 e2 CU hrow
      go_wp2_with fail
      (with_reducible refine HCC.out.mono ?_)
      rintro e w3 ⟨a3, c3, rfl, o3, e3⟩
      have e2 := HE2.out.trans e3
      have z2 := e2.size_le
      have o3' := o3.more (B' := wr.heap.size) (HE2.out.size_le)
      have O5 := (ho.ext e2).ext ((Ext.refl w3).alloc (.cells #[.slice a3 ys.length c3] 36))
      have R5 := ((OI.of o3').ext ((Ext.refl w3).alloc (.cells #[.slice a3 ys.length c3] 36))).mono (C := wr.heap.size) (C2 := (w3.alloc (.cells #[.slice a3 ys.length c3] 36)).heap.size) (Nat.le_refl _) (by simp)
      have E5 := (he.trans e2).alloc (.cells #[.slice a3 ys.length c3] 36)
      have hnew : Vals (w3.alloc (.cells #[.slice a3 ys.length c3] 36)) (some ⟨w3.heap.size, 0, none⟩) [.slice a3 ys.length c3] := Vals.new w3 [.slice a3 ys.length c3] 36
      have hob := ho.block
      clear o3 o3' e3 e2 ho he HCC HE2
      go_wp2_with (at_builtin; refine wpList_appM _ rfl _ _ rfl w.heap.size wr.heap.size _ _ yss rfl O5 _ _ _ _ ys rfl hnew R5 hsz (by simp; omega) zss hzs.out (by omega) ?_)
      intro a5 c5 w5 o5 g5
      have e5 := E5.grown g5 (fun k hk => (hob k hk).1)
      clear g5 E5 O5 R5 hnew hob
      go_wp2_with fail
      go_roundw
      case rel => exact ⟨j + 1, a5, c5, zss, by omega, by go_num, rfl, HT, o5, e5⟩
      case measure => simp [intOf]; omega
    · obtain rfl : j = m.length := by omega
      have HYA : Hid (yss = aug m) := HY
      rw [← HYA.out] at HRR HRM HLD HAL
      have HYL : Hid (∀ xs ∈ yss, xs.length ≤ 1048576) := fun xs hx => by rw [HYA.out] at hx; have := (validV_true.1 (aug_VR HV.out q3 xs hx).1).2; omega
      obtain ⟨xx, hxx⟩ : ∃ xx, Hid (xx = gj yss (2 * m.length)) := ⟨_, rfl⟩
      rw [← hxx.out] at HRR HRM HLD HAL
      have HXL : Hid (xx.length = m.length) := HRM.out.2.1
      have hxl : xx.length ≤ 20 := by rw [HXL.out]; exact q3
      have CR := implRowReduce_ok a1 c1 yss wr ho.reads (by omega) HYL.out
      rw [HRR.out] at CR
      have HCR := Lib.hid CR
      clear CR ho
      go_wp2_with fail
      (with_reducible refine HCR.out.mono ?_)
      rintro e w4 ⟨a4, c4, rfl, o4, e4⟩
      have E4 := he.trans e4
      have z4 := E4.size_le
      clear e4 HCR he
      obtain ⟨wq, hwq⟩ : ∃ wq, wq = wr := ⟨_, rfl⟩
      subst hwq
      go_wp2_with fail
      go_loopw [9, 48] (fun x i wr => ∃ (k : Nat) (a5 : Option Addr) (c5 : Nat) (zss : List (List Int)), k ≤ xx.length ∧ i = .int .i64 k ∧ x = .slice a5 zss.length c5 ∧ Hid (zss = (tails m.length xx).take k) ∧ Hid (∀ i, i < k → ld (xx.getD i []) = i) ∧ OM wr w4.heap.size wr.heap.size a5 c5 zss ∧ OM wr wq.heap.size w4.heap.size a4 c4 xx ∧ Ext w wr ∧ w4.heap.size ≤ wr.heap.size) (fun _ i _ => xx.length - (intOf i).toNat)
      case atStart => exact ⟨0, none, 0, [], Nat.zero_le _, rfl, rfl, rfl, fun i hi => by omega, OM.nil _ _ _, o4, E4, Nat.le_refl _⟩
      case round =>
        clear o4 E4
        obtain ⟨k, a5, c5, zss, hk, rfl, rfl, HZ, HK, hz, hM, he, hsz⟩ := hrel
        have hzl : zss.length ≤ 20 := by rw [HZ.out, List.length_take]; omega
        by_cases hlt : k < xx.length
        · obtain ⟨g, rfl, _⟩ := hM.form (by omega)
          obtain ⟨ra, rc, hc, hrow, _, _⟩ := hM.row hlt
          obtain ⟨xs, hxs⟩ : ∃ xs, Hid (xs = xx.getD k []) := ⟨_, rfl⟩
          have hrk := HRM.out.1.1.getD hlt
          have hlk := HRM.out.1.ld_lt hlt
          have HLK := HLD.out k (by rw [← HXL.out]; exact hlt)
          have HT : Hid (zss ++ [xs.drop m.length] = (tails m.length xx).take (k + 1)) := by
            rw [take_snocM (getD_get (m := tails m.length xx) (i := k) (by rw [tails_length]; exact hlt)), tails_getD hlt, ← HZ.out, ← hxs.out]
            exact Lib.hid rfl
          have HKI : Hid (ld xs = ld (xx.getD k [])) := by rw [hxs.out]; exact Lib.hid rfl
          rw [← hxs.out] at hrk hlk hc hrow HLK
          obtain ⟨p, hp⟩ : ∃ p, Hid (ld xs = p) := ⟨_, rfl⟩
          rw [hp.out] at hlk HLK
          have hxl2 : xs.length ≤ 40 := hrk.2.2
          have hxn : Hid (xs.length = 2 * m.length) := hrk.2.1
          have HP : Hid (leadI xs = (p : Int)) := leadI_nat hp.out (by rw [hrk.2.1]; exact hlk)
          have i0 : (k : Int) < (xx.length : Int) := by omega
          have HLK2 := Lib.hid HLK
          have hmp : 0 < m.length := by have := HXL.out; omega
          have hml : m.length < xs.length := by have := hxn.out; omega
          clear hrk HLK
          by_cases hpn : p = k
          · have hpn' : ((p : Int) != (k : Int)) = false := by simp [hpn]
            have HK2 : Hid (∀ i, i < k + 1 → ld (xx.getD i []) = i) := fun i hi => by
              by_cases e : i = k
              · subst e; rw [← HKI.out, hp.out, hpn]
              · exact HK.out i (by omega)
            obtain ⟨g2, rfl, _⟩ := hrow.form (by omega)
            have hcap := hrow.1.cap
            obtain ⟨ts, hts⟩ : ∃ ts, Hid (ts = xs.drop m.length) := ⟨_, rfl⟩
            have htl : Hid (xs.length - m.length = ts.length) := by rw [hts.out, List.length_drop]; exact Lib.hid rfl
            have htl2 : ts.length ≤ 40 := by rw [← htl.out]; omega
            have hv : Vals wr (some ⟨g2, m.length, none⟩) (I ts) := by
              have := hrow.vals.dropR m.length
              rw [Nat.zero_add] at this
              rw [hts.out]
              exact this
            have CC : Hid (∀ d, Calls Try.prog 93 #[.slice (some ⟨g2, m.length, none⟩) (xs.length - m.length) d] wr (NewI wr ts)) := fun d => by
              rw [htl.out]
              exact cloneI_ok _ _ _ _ hv (by omega)
            rw [← hts.out] at HT
            obtain ⟨yss2, hy2⟩ : ∃ yss2, Hid (yss2 = zss ++ [ts]) := ⟨_, rfl⟩
            rw [← hy2.out] at HT
            have i1 : ¬ (rc = m.length) := by omega
            have i2 : (m.length : Int) ≤ (xs.length : Int) := by omega
            have i3 : m.length ≤ rc := by omega
            have i4 : (xs.length : Int) ≤ (rc : Int) := by omega
            have i5 : (m.length : Int) ≤ (rc : Int) := by omega
            have hsz2 := he.size_le
            clear hpn hv hts
            go_wp2_with (go_at_call 39; (with_reducible refine (implLeadingIndex_ok _ _ _ _ hrow.vals (by omega)).mono ?_); rintro e w' ⟨rfl, rfl⟩; rw [HP.out])
            (with_reducible refine (CC.out _).mono ?_)
            rintro e w5 ⟨a6, c6, rfl, o6, e6⟩
            have z6 := e6.size_le
            have O5 := (hz.ext e6).ext ((Ext.refl w5).alloc (.cells #[.slice a6 ts.length c6] 36))
            have R5 := ((OI.of o6).ext ((Ext.refl w5).alloc (.cells #[.slice a6 ts.length c6] 36))).mono (C := wr.heap.size) (C2 := (w5.alloc (.cells #[.slice a6 ts.length c6] 36)).heap.size) (Nat.le_refl _) (by simp)
            have E5 := (he.trans e6).alloc (.cells #[.slice a6 ts.length c6] 36)
            have M5 := (hM.ext e6).ext ((Ext.refl w5).alloc (.cells #[.slice a6 ts.length c6] 36))
            have hnew : Vals (w5.alloc (.cells #[.slice a6 ts.length c6] 36)) (some ⟨w5.heap.size, 0, none⟩) [.slice a6 ts.length c6] := Vals.new w5 [.slice a6 ts.length c6] 36
            have hob := hz.block
            clear o6 e6 hz hM he CC hrow hc
            go_wp2_with (at_builtin; refine wpList_appM _ rfl _ _ rfl w4.heap.size wr.heap.size _ _ zss rfl O5 _ _ _ _ ts rfl hnew R5 hsz (by simp; omega) yss2 hy2.out (by omega) ?_)
            intro a7 c7 w7 o7 g7
            have e7 := E5.grown g7 (fun k hk => by have := (hob k hk).1; omega)
            have m7 := M5.grownBy g7 (fun k hk => .inr (hob k hk).1)
            have z7 := g7.size
            clear g7 E5 O5 R5 M5 hnew hob
            go_wp2_with fail
            go_roundw
            case rel => exact ⟨k + 1, a7, c7, yss2, by omega, by go_num, rfl, HT, HK2, o7, m7, e7, by simp at z7; omega⟩
            case measure => simp [intOf]; omega
          · have hpn' : ((p : Int) != (k : Int)) = true := by simp; omega
            have HF := Lib.hid (HLK2.out hpn)
            clear hpn
            go_wp2_with (go_at_call 39; (with_reducible refine (implLeadingIndex_ok _ _ _ _ hrow.vals (by omega)).mono ?_); rintro e w' ⟨rfl, rfl⟩; rw [HP.out])
            go_ret2
            rw [HF.out.1, HF.out.2]
            exact ⟨none, 0, rfl, OM.nil _ _ _, he⟩
        · obtain rfl : k = xx.length := by omega
          have HF := Lib.hid (HAL.out (fun i hi => HK.out i (by rw [HXL.out]; exact hi)))
          have HZ2 : Hid (tails m.length xx = zss) := by rw [HZ.out, List.take_of_length_le (by rw [tails_length]; exact Nat.le_refl _)]; exact Lib.hid rfl
          rw [HZ2.out] at HF
          go_wp2_with fail
          go_ret2
          rw [HF.out.1, HF.out.2]
          exact ⟨_, _, rfl, hz.mono (by omega) (Nat.le_refl _), he⟩

end Go.Proofs.Ytninamlcffemoaa
