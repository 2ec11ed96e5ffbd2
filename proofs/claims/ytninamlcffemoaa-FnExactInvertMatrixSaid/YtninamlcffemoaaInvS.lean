/- InvertMatrix: contract of the reference; the law. -/
import Derived.Test.YtninamlcffemoaaInvW
import Derived.Test.YtninamlcffemoaaLawTot
namespace Go.Proofs.Ytninamlcffemoaa
open Go.RowKit
set_option linter.unusedVariables false
set_option maxRecDepth 20000

variable {m : List (List Int)}
theorem specSquare_ok (a : Option Addr) (c : Nat) (m : List (List Int)) (w : World) (h : MatR w a m) (hl : m.length ≤ 1048576) (hr : ∀ xs ∈ m, xs.length ≤ 1048576) :
    Calls Try.prog 74 #[.slice a m.length c] w (Quiet w (.bool (validM m && decide (m.length = cols m)))) := by
  have Q := Lib.hid (specIsValidMatrix_ok a c m w h (by omega) (fun xs hx => Nat.le_trans (hr xs hx) (by omega)))
  clear hr
  cases q1 : validM m
  · rw [q1] at Q
    go_enter Try.func74, Try.ntmps74
    go_wp2_with fail
    (with_reducible refine Q.out.mono ?_)
    rintro e w1 ⟨rfl, q, rfl⟩
    go_wp2_with fail
    go_ret
    exact ⟨rfl, q, rfl⟩
  · rw [q1] at Q
    by_cases q2 : m.length = cols m
    · have q2' : ((m.length : Int) == (cols m : Int)) = true := by simp [← q2]
      have HD : Hid (decide (m.length = cols m) = true) := decide_eq_true q2
      clear q2
      go_enter Try.func74, Try.ntmps74
      go_wp2_with fail
      (with_reducible refine Q.out.mono ?_)
      rintro e w1 ⟨rfl, q, rfl⟩
      go_wp2_with (go_at_call 26; (with_reducible refine (specColumnsOf_ok _ _ _ _ (h.ext ((Ext.refl w).drewN q))).mono ?_); rintro e w' ⟨rfl, rfl⟩)
      go_ret
      rw [HD.out]
      exact ⟨rfl, q, rfl⟩
    · have q2' : ((m.length : Int) == (cols m : Int)) = false := by simp; omega
      have HD : Hid (decide (m.length = cols m) = false) := decide_eq_false q2
      clear q2
      go_enter Try.func74, Try.ntmps74
      go_wp2_with fail
      (with_reducible refine Q.out.mono ?_)
      rintro e w1 ⟨rfl, q, rfl⟩
      go_wp2_with (go_at_call 26; (with_reducible refine (specColumnsOf_ok _ _ _ _ (h.ext ((Ext.refl w).drewN q))).mono ?_); rintro e w' ⟨rfl, rfl⟩)
      go_ret
      rw [HD.out]
      exact ⟨rfl, q, rfl⟩

set_option maxHeartbeats 8000000 in
set_option maxRecDepth 100000 in
theorem specInvertMatrix_ok (a : Option Addr) (c : Nat) (m : List (List Int)) (w : World) (h : MatR w a m) (hl : m.length ≤ 1048576) (hr : ∀ xs ∈ m, xs.length ≤ 1048576) :
    Calls Try.prog 19 #[.slice a m.length c] w (NewMF w (invM m) (invOk m)) := by
  have Q := Lib.hid (specSquare_ok a c m w h hl hr)
  clear hr
  have bad : Hid (invOk m = false ∧ invM m = [] → ∀ W, Ext w W → NewMF w (invM m) (invOk m) (.returned (.tuple #[.slice (some ⟨W.heap.size, 0, none⟩) 0 0, .bool false])) (W.alloc (.cells #[] 36))) := fun hs W hW => by
    rw [hs.1, hs.2]
    exact ⟨_, _, rfl, (OM.new0 W).mono hW.size_le (Nat.le_refl _), hW.alloc _⟩
  cases q1 : (validM m && decide (m.length = cols m))
  · have HS : Hid (sqOk m = false) := by unfold sqOk; rw [← Bool.and_assoc, q1]; exact Lib.hid rfl
    rw [q1] at Q
    go_enter Try.func19, Try.ntmps19
    go_wp2_with fail
    (with_reducible refine Q.out.mono ?_)
    rintro e w1 ⟨rfl, q, rfl⟩
    have E1 := (Ext.refl w).drewN q
    generalize w.drewN q = w1 at *
    go_wp2_with fail
    go_ret2
    exact bad.out (inv_sq HS.out) _ E1
  rw [q1] at Q
  by_cases q3 : m.length ≤ 20
  rotate_left
  · have HS : Hid (sqOk m = false) := by unfold sqOk; rw [decide_eq_false q3]; simp [Hid]
    have q3' : (20 : Int) < (m.length : Int) := by omega
    clear q3
    go_enter Try.func19, Try.ntmps19
    go_wp2_with fail
    (with_reducible refine Q.out.mono ?_)
    rintro e w1 ⟨rfl, q, rfl⟩
    have E1 := (Ext.refl w).drewN q
    generalize w.drewN q = w1 at *
    go_wp2_with fail
    go_ret2
    exact bad.out (inv_sq HS.out) _ E1
  have q3' : ¬ (20 : Int) < (m.length : Int) := by omega
  have HS : Hid (sqOk m = true) := by unfold sqOk; rw [← Bool.and_assoc, q1, decide_eq_true q3]; exact Lib.hid rfl
  have HV := Lib.hid (sqOk_parts HS.out).2.2.2
  have HSH := Lib.hid (inv_short HS.out)
  have HLG := Lib.hid (inv_long HS.out)
  have HGV : Hid (VR (2 * m.length) (gj (aug m) m.length)) := (gj_red (k := m.length) (show 2 * m.length ≤ 40 by omega) (aug_VR HV.out q3)).1.1
  have HGL : Hid ((gj (aug m) m.length).length ≤ m.length) := by
    have := (gj_red (k := m.length) (show 2 * m.length ≤ 40 by omega) (aug_VR HV.out q3)).2.1
    rw [aug_length] at this
    exact Lib.hid this
  clear q1
  go_enter Try.func19, Try.ntmps19
  go_wp2_with fail
  (with_reducible refine Q.out.mono ?_)
  rintro e w1 ⟨rfl, q, rfl⟩
  have E1 := (Ext.refl w).drewN q
  clear Q
  generalize w.drewN q = w1 at *
  have o0 := (OM.new0 w1).mono (C := w.heap.size) (C2 := (w1.alloc (.cells #[] 36)).heap.size) E1.size_le (Nat.le_refl _)
  have E2 := E1.alloc (.cells #[] 36)
  go_wp2_with fail
  go_loopw [5, 6] (fun x i wr => ∃ (j : Nat) (a1 : Option Addr) (c1 : Nat) (yss : List (List Int)), j ≤ m.length ∧ i = .int .i64 j ∧ x = .slice a1 yss.length c1 ∧ Hid (yss = augTo m m.length j) ∧ OM wr w.heap.size wr.heap.size a1 c1 yss ∧ Ext w wr) (fun _ i _ => m.length - (intOf i).toNat)
  case atStart => exact ⟨0, _, _, [], Nat.zero_le _, rfl, rfl, rfl, o0, E2⟩
  case round =>
    clear E1 o0 E2
    obtain ⟨j, a1, c1, yss, hj, rfl, rfl, HY, ho, he⟩ := hrel
    have hyl : yss.length ≤ 40 := by rw [HY.out, augTo_length]; omega
    by_cases hlt : j < m.length
    · obtain ⟨b1, o1, ra, rc, xs, rfl, hbl, hx, hcw, hroww⟩ := h.at_ hlt
      have E3 := (Ext.refl wr).alloc (.cells (I []).toArray 3)
      have hc : (wr.alloc (.cells #[] 3)).cell? ⟨b1, o1 + j, none⟩ = some (.slice ra xs.length rc) := (he.trans E3).cell hcw
      have hrow := hroww.ext (he.trans E3)
      replace hcw := Lib.hid hcw
      have hxl : xs.length ≤ 40 := (HV.out.ok hx.out).2.1
      obtain ⟨us, hus⟩ : ∃ us, Hid (us = unitV m.length j) := ⟨_, rfl⟩
      have hul : Hid (us.length = m.length) := by rw [hus.out, unitV_length]; exact Lib.hid rfl
      have hul2 : us.length ≤ 40 := by rw [hul.out]; omega
      have CU := Lib.hid (fun W => specUnitVector_ok m.length j W hlt (by omega))
      rw [← hus.out] at CU
      obtain ⟨ys, hys⟩ : ∃ ys, Hid (ys = xs ++ us) := ⟨_, rfl⟩
      have hyl2 : ys.length ≤ 80 := by rw [hys.out]; simp; omega
      obtain ⟨zss, hzs⟩ : ∃ zss, Hid (zss = yss ++ [ys]) := ⟨_, rfl⟩
      have HT : Hid (zss = augTo m m.length (j + 1)) := by
        rw [augTo_succ, getD_some hx.out, ← HY.out]
        show zss = yss ++ [xs ++ unitV m.length j]
        rw [← hus.out, ← hys.out]; exact hzs
      have hsz := he.size_le
      have n0 := OwnI.new wr wr.heap.size [] (Nat.le_refl _) (by simp)
      clear hroww
      go_wp2_with (at_builtin; refine wpList_appI _ rfl _ _ rfl wr.heap.size _ _ [] rfl n0 _ _ xs rfl hrow xs (List.nil_append xs).symm (by simp; omega) (by simp) ?_)
      intro a3 c3 w3 o3 g3 _
      have e3 : Ext wr w3 := E3.grown g3 (by simp [blockOf])
      clear g3 n0 hrow hc E3
      go_wp2_with fail
      (with_reducible refine (CU.out _).mono ?_)
      rintro e w4 ⟨a4, c4, rfl, o4, e4⟩
      have o34 := o3.ext e4
      have e34 := e3.trans e4
      have z34 := e34.size_le
      clear o3 e3 CU
      go_wp2_with (at_builtin; refine wpList_appI _ rfl _ _ rfl wr.heap.size _ _ xs rfl o34 _ _ us rfl o4.vals ys hys.out (by omega) z34 ?_)
      intro a5 c5 w5 o5 g5 _
      have e5 : Ext wr w5 := e34.grown g5 (fun k hk => (o34.block k hk).1)
      have z5 := e5.size_le
      have O5 := (ho.ext e5).ext ((Ext.refl w5).alloc (.cells #[.slice a5 ys.length c5] 36))
      have R5 := ((OI.of o5).ext ((Ext.refl w5).alloc (.cells #[.slice a5 ys.length c5] 36))).mono (C := wr.heap.size) (C2 := (w5.alloc (.cells #[.slice a5 ys.length c5] 36)).heap.size) (Nat.le_refl _) (by simp)
      have E5 := (he.trans e5).alloc (.cells #[.slice a5 ys.length c5] 36)
      have hnew : Vals (w5.alloc (.cells #[.slice a5 ys.length c5] 36)) (some ⟨w5.heap.size, 0, none⟩) [.slice a5 ys.length c5] := Vals.new w5 [.slice a5 ys.length c5] 36
      have hob := ho.block
      clear o5 g5 e5 o34 e34 o4 e4 ho he
      go_wp2_with (at_builtin; refine wpList_appM _ rfl _ _ rfl w.heap.size wr.heap.size _ _ yss rfl O5 _ _ _ _ ys rfl hnew R5 hsz (by simp; omega) zss hzs.out (by omega) ?_)
      intro a7 c7 w7 o7 g7
      have e7 := E5.grown g7 (fun k hk => (hob k hk).1)
      clear g7 E5 O5 R5 hnew hob
      go_wp2_with fail
      go_roundw
      case rel => exact ⟨j + 1, a7, c7, zss, by omega, by go_num, rfl, HT, o7, e7⟩
      case measure => simp [intOf]; omega
    · obtain rfl : j = m.length := by omega
      have HYA : Hid (yss = aug m) := HY
      have HWV : Hid (VR (2 * m.length) yss) := by rw [HYA.out]; exact aug_VR HV.out q3
      rw [← HYA.out] at HSH HLG HGV HGL
      have CR := specReduce_ok a1 c1 yss (2 * m.length) m.length wr ho.reads HWV.out (by omega) (by omega) (by omega)
      obtain ⟨xx, hxx⟩ : ∃ xx, Hid (xx = gj yss m.length) := ⟨_, rfl⟩
      rw [← hxx.out] at HSH HLG HGV HGL CR
      have HCR := Lib.hid CR
      have hxl : xx.length ≤ 20 := by have := HGL.out; omega
      clear CR ho
      go_wp2_with fail
      (with_reducible refine HCR.out.mono ?_)
      rintro e w4 ⟨a4, c4, rfl, o4, e4⟩
      have E4 := he.trans e4
      have z4 := E4.size_le
      clear e4 HCR he
      by_cases hsh : xx.length < m.length
      · have HF := Lib.hid (HSH.out hsh)
        have hsh' : (xx.length : Int) < (m.length : Int) := by omega
        clear hsh
        go_wp2_with fail
        go_ret2
        exact bad.out HF.out _ E4
      have HF := Lib.hid (HLG.out hsh)
      have hsh' : decide (xx.length < m.length) = false := decide_eq_false hsh
      have hsh2 : decide ((xx.length : Int) < (m.length : Int)) = false := decide_eq_false (by omega)
      have HXL : Hid (xx.length = m.length) := HF.out.2.2
      clear hsh
      obtain ⟨wq, hwq⟩ : ∃ wq, wq = wr := ⟨_, rfl⟩
      subst hwq
      have o5 := OM.new0 w4
      have O4 := o4.ext ((Ext.refl w4).alloc (.cells #[] 36))
      have E5 := E4.alloc (.cells #[] 36)
      clear o4
      go_wp2_with fail
      go_loopw [8, 9] (fun x i wr => ∃ (k : Nat) (a5 : Option Addr) (c5 : Nat) (zss : List (List Int)), k ≤ m.length ∧ i = .int .i64 k ∧ x = .slice a5 zss.length c5 ∧ Hid (zss = (tails m.length xx).take k) ∧ OM wr w4.heap.size wr.heap.size a5 c5 zss ∧ OM wr wq.heap.size w4.heap.size a4 c4 xx ∧ Ext w wr ∧ w4.heap.size ≤ wr.heap.size) (fun _ i _ => m.length - (intOf i).toNat)
      case atStart => exact ⟨0, _, _, [], Nat.zero_le _, rfl, rfl, rfl, o5, O4, E5, by simp⟩
      case round =>
        clear o5 O4 E5 E4
        obtain ⟨k, a5, c5, zss, hk, rfl, rfl, HZ, hz, hM, he, hsz⟩ := hrel
        have hzl : zss.length ≤ 20 := by rw [HZ.out, List.length_take]; omega
        by_cases hltm : k < m.length
        · have hlt : k < xx.length := by rw [HXL.out]; exact hltm
          obtain ⟨g, rfl, _⟩ := hM.form (by omega)
          obtain ⟨ra, rc, hc, hrow, _, _⟩ := hM.row hlt
          obtain ⟨xs, hxs⟩ : ∃ xs, Hid (xs = xx.getD k []) := ⟨_, rfl⟩
          have hrk := HGV.out.getD hlt
          have HT : Hid (zss ++ [xs.drop m.length] = (tails m.length xx).take (k + 1)) := by
            rw [take_snocM (getD_get (m := tails m.length xx) (i := k) (by rw [tails_length]; exact hlt)), tails_getD hlt, ← HZ.out, ← hxs.out]
            exact Lib.hid rfl
          rw [← hxs.out] at hrk hc hrow
          have hxl2 : xs.length ≤ 40 := hrk.2.2
          have hxn : Hid (xs.length = 2 * m.length) := hrk.2.1
          have i0 : (k : Int) < (xx.length : Int) := by omega
          have hmp : 0 < m.length := by omega
          have hml : m.length < xs.length := by have := hxn.out; omega
          clear hrk
          obtain ⟨g2, rfl, _⟩ := hrow.form (by omega)
          have hcap := hrow.1.cap
          obtain ⟨ts, hts⟩ : ∃ ts, Hid (ts = xs.drop m.length) := ⟨_, rfl⟩
          have htl : Hid (xs.length - m.length = ts.length) := by rw [hts.out, List.length_drop]; exact Lib.hid rfl
          have htl2 : ts.length ≤ 40 := by rw [← htl.out]; omega
          have hv : Hid (Vals wr (some ⟨g2, m.length, none⟩) (I ts)) := by
            have := hrow.vals.dropR m.length
            rw [Nat.zero_add] at this
            rw [hts.out]
            exact this
          rw [← hts.out] at HT
          obtain ⟨yss2, hy2⟩ : ∃ yss2, Hid (yss2 = zss ++ [ts]) := ⟨_, rfl⟩
          rw [← hy2.out] at HT
          have i1 : ¬ (rc = m.length) := by omega
          have i2 : (m.length : Int) ≤ (xs.length : Int) := by omega
          have i3 : m.length ≤ rc := by omega
          have i4 : (xs.length : Int) ≤ (rc : Int) := by omega
          have i5 : (m.length : Int) ≤ (rc : Int) := by omega
          have hsz2 := he.size_le
          have n0 := OwnI.new wr wr.heap.size [] (Nat.le_refl _) (by simp)
          have E6 := (Ext.refl wr).alloc (.cells (I []).toArray 3)
          have N0 := Lib.hid n0
          clear hts n0
          go_wp2_with (at_builtin; refine wpList_appI _ rfl _ _ rfl wr.heap.size _ _ [] rfl N0.out _ _ ts (by rw [← htl.out]; rfl) (hv.out.ext E6) ts (List.nil_append ts).symm (by simp; omega) (by simp) ?_)
          intro a6 c6 w5 o6 g6 _
          have e6 : Ext wr w5 := E6.grown g6 (by simp [blockOf])
          have z6 := e6.size_le
          have O5 := (hz.ext e6).ext ((Ext.refl w5).alloc (.cells #[.slice a6 ts.length c6] 36))
          have R5 := ((OI.of o6).ext ((Ext.refl w5).alloc (.cells #[.slice a6 ts.length c6] 36))).mono (C := wr.heap.size) (C2 := (w5.alloc (.cells #[.slice a6 ts.length c6] 36)).heap.size) (Nat.le_refl _) (by simp)
          have E5 := (he.trans e6).alloc (.cells #[.slice a6 ts.length c6] 36)
          have M5 := (hM.ext e6).ext ((Ext.refl w5).alloc (.cells #[.slice a6 ts.length c6] 36))
          have hnew : Vals (w5.alloc (.cells #[.slice a6 ts.length c6] 36)) (some ⟨w5.heap.size, 0, none⟩) [.slice a6 ts.length c6] := Vals.new w5 [.slice a6 ts.length c6] 36
          have hob := hz.block
          clear o6 g6 e6 E6 hz hM he hrow hc N0 hv
          go_wp2_with (at_builtin; refine wpList_appM _ rfl _ _ rfl w4.heap.size wr.heap.size _ _ zss rfl O5 _ _ _ _ ts rfl hnew R5 hsz (by simp; omega) yss2 hy2.out (by omega) ?_)
          intro a7 c7 w7 o7 g7
          have e7 := E5.grown g7 (fun k hk => by have := (hob k hk).1; omega)
          have m7 := M5.grownBy g7 (fun k hk => .inr (hob k hk).1)
          have z7 := g7.size
          clear g7 E5 O5 R5 M5 hnew hob
          go_wp2_with fail
          go_roundw
          case rel => exact ⟨k + 1, a7, c7, yss2, by omega, by go_num, rfl, HT, o7, m7, e7, by simp at z7; omega⟩
          case measure => simp [intOf]; omega
        · obtain rfl : k = m.length := by omega
          have HZ2 : Hid (tails m.length xx = zss) := by rw [HZ.out, List.take_of_length_le (by rw [tails_length, HXL.out]; exact Nat.le_refl _)]; exact Lib.hid rfl
          rw [HZ2.out] at HF
          go_wp2_with fail
          go_ret2
          rw [HF.out.1, HF.out.2.1]
          exact ⟨_, _, rfl, hz.mono (by omega) (Nat.le_refl _), he⟩

theorem invM_tot (m : List (List Int)) : (invM m).length ≤ 1048576 ∧ tot (invM m) ≤ 1048576 := by
  obtain ⟨h1, h2⟩ := invM_bound m
  have := tot_le h2
  omega

set_option maxHeartbeats 4000000 in
set_option maxRecDepth 100000 in
theorem lawInvertMatrix (a0 : Option Addr) (c0 : Nat) (xss0 : List (List Int)) (w : World) (r0_0 : MatR w a0 xss0) (m0_0 : xss0.length ≤ maxLen) (m0_1 : ∀ xs ∈ xss0, xs.length ≤ maxLen) :
    Calls Try.prog 4 #[.slice a0 xss0.length c0] w (Gives w (.bool true)) := by
  replace m0_1 := Lib.hid m0_1
  by_cases hs0 : szM xss0 1048576 < 0
  · skip
    go_enter Try.func4, Try.ntmps4
    go_wp2_with fail
    refine (szIntSS_ok _ _ _ _ _ (r0_0.ext (Ext.refl w)) m0_0 m0_1.out (by omega) (by omega)).mono ?_
    rintro e w1 ⟨rfl, rfl⟩
    go_wp2_with fail
    go_ret
    exact ⟨rfl, Ext.refl w⟩
  obtain ⟨hle0, heq0⟩ := szM_le (Int.not_lt.1 hs0)
  have hl0 : xss0.length ≤ 1048576 := by omega
  have hr0 : Hid (∀ xs ∈ xss0, xs.length ≤ 1048576) := fun xs hx => by have := rows_le hx; omega
  have ht0 : tot xss0 ≤ 1099511627776 := by omega
  have hu0 : tot xss0 ≤ 1048576 := by omega
  have hf0 : szM xss0 1048576 ≤ 1048576 := by omega
  have hg0 : 0 ≤ szM xss0 1048576 := by omega
  replace heq0 := Lib.hid heq0
  have hres : (invM xss0).length ≤ 1048576 ∧ tot (invM xss0) ≤ 1048576 := (invM_tot xss0)
  have hrr : Hid (∀ xs ∈ (invM xss0), xs.length ≤ 1048576) := fun xs hx => by have := rows_le hx; omega
  obtain ⟨hres1, hres2⟩ := hres
  have hres : (invM xss0).length ≤ 1048576 ∧ tot (invM xss0) ≤ 1048576 := ⟨hres1, hres2⟩
  go_enter Try.func4, Try.ntmps4
  go_wp2_with fail
  refine (szIntSS_ok _ _ _ _ _ (r0_0.ext (Ext.refl w)) m0_0 m0_1.out (by omega) (by omega)).mono ?_
  rintro e w1 ⟨rfl, rfl⟩
  go_wp2_with fail
  refine (toIntSS_ok _ _ _ _ (r0_0.ext (Ext.refl w)) hl0 hr0.out).mono ?_
  rintro e w1 ⟨t1a, t1c, rfl, t1o, e1⟩
  have E := (Ext.refl w).trans e1
  have z0 := e1.size_le
  go_wp2_with fail
  refine (specInvertMatrix_ok _ _ _ _ (t1o.reads) hl0 hr0.out).mono ?_
  rintro e w2 ⟨u0a, u0c, rfl, u0o, e2⟩
  have z2 := e2.size_le
  replace t1o := t1o.ext e2
  replace E := E.trans e2
  clear e2
  go_wp2_with fail
  refine (toIntSS_ok _ _ _ _ (r0_0.ext (E)) hl0 hr0.out).mono ?_
  rintro e w3 ⟨t3a, t3c, rfl, t3o, e3⟩
  have z3 := e3.size_le
  replace u0o := u0o.ext e3
  replace E := E.trans e3
  clear e3
  go_wp2_with fail
  refine (implInvertMatrix_ok _ _ _ _ (t3o.reads) hl0 hr0.out).mono ?_
  rintro e w4 ⟨u1a, u1c, rfl, u1o, e4⟩
  have z4 := e4.size_le
  replace u0o := u0o.ext e4
  replace t3o := t3o.ext e4
  replace E := E.trans e4
  clear e4
  have qflag : ((invOk xss0) != (invOk xss0)) = false := by simp
  go_wp2_with fail
  refine (eqIntSS_ok _ _ _ _ _ _ _ (u1o.reads) (u0o.reads) (by omega) (fun xs hx => Nat.le_trans (hrr.out xs hx) (by omega))).mono ?_
  rintro e w5 ⟨rfl, e5⟩
  replace e5 := Dr.ext e5
  have z5 := e5.size_le
  replace u0o := u0o.ext e5
  replace t3o := t3o.ext e5
  replace u1o := u1o.ext e5
  replace E := E.trans e5
  clear e5
  go_wp2_with fail
  refine (toIntSS_ok _ _ _ _ (r0_0.ext (E)) hl0 hr0.out).mono ?_
  rintro e w6 ⟨t6a, t6c, rfl, t6o, e6⟩
  have z6 := e6.size_le
  replace u0o := u0o.ext e6
  replace t3o := t3o.ext e6
  replace u1o := u1o.ext e6
  replace E := E.trans e6
  clear e6
  go_wp2_with fail
  refine (eqIntSS_ok _ _ _ _ _ _ _ (t3o.reads) (t6o.reads) (by omega) (fun xs hx => Nat.le_trans (hr0.out xs hx) (by omega))).mono ?_
  rintro e w7 ⟨rfl, e7⟩
  replace e7 := Dr.ext e7
  have z7 := e7.size_le
  replace u0o := u0o.ext e7
  replace t3o := t3o.ext e7
  replace u1o := u1o.ext e7
  replace E := E.trans e7
  clear e7
  go_wp2_with fail
  refine (markIntSS_ok _ _ _ _ _ _ _ t3o (by omega) ht0 (by omega) (by omega)).mono ?_
  rintro e w8 ⟨rfl, t3o', s8⟩
  have z8 := s8.size
  replace u0o := u0o.span s8 (by omega)
  replace u1o := u1o.span s8 (by omega)
  replace E := Span.ext E s8 (by omega)
  clear s8 t3o
  have t3o := t3o'
  clear t3o'
  go_wp2_with fail
  refine (eqIntSS_ok _ _ _ _ _ _ _ (u1o.reads) (u0o.reads) (by omega) (fun xs hx => Nat.le_trans (hrr.out xs hx) (by omega))).mono ?_
  rintro e w9 ⟨rfl, e9⟩
  replace e9 := Dr.ext e9
  have z9 := e9.size_le
  replace u0o := u0o.ext e9
  replace u1o := u1o.ext e9
  replace E := E.trans e9
  clear e9
  go_wp2_with fail
  refine (markIntSS_ok _ _ _ _ _ _ _ u1o (by omega) (Nat.le_trans hres.2 (by omega)) (by omega) (by omega)).mono ?_
  rintro e w10 ⟨rfl, u1o', s10⟩
  have z10 := s10.size
  replace u0o := u0o.span s10 (by omega)
  replace E := Span.ext E s10 (by omega)
  clear s10 u1o
  have u1o := u1o'
  clear u1o'
  go_wp2_with fail
  refine (heldIntSS_ok _ _ _ _ _ (u1o.reads) (by omega) (Nat.le_trans hres.2 (by omega)) (by omega) (by omega)).mono ?_
  rintro e w11 ⟨rfl, rfl⟩
  go_wp2_with fail
  refine (toIntSS_ok _ _ _ _ (r0_0.ext (E)) hl0 hr0.out).mono ?_
  rintro e w11 ⟨t11a, t11c, rfl, t11o, e11⟩
  have z11 := e11.size_le
  replace u0o := u0o.ext e11
  replace u1o := u1o.ext e11
  replace E := E.trans e11
  clear e11
  go_wp2_with fail
  refine (implInvertMatrix_ok _ _ _ _ (t11o.reads) hl0 hr0.out).mono ?_
  rintro e w12 ⟨u2a, u2c, rfl, u2o, e12⟩
  have z12 := e12.size_le
  replace u0o := u0o.ext e12
  replace u1o := u1o.ext e12
  replace t11o := t11o.ext e12
  replace E := E.trans e12
  clear e12
  go_wp2_with fail
  refine (eqIntSS_ok _ _ _ _ _ _ _ (u2o.reads) (u0o.reads) (by omega) (fun xs hx => Nat.le_trans (hrr.out xs hx) (by omega))).mono ?_
  rintro e w13 ⟨rfl, e13⟩
  replace e13 := Dr.ext e13
  have z13 := e13.size_le
  replace u0o := u0o.ext e13
  replace u1o := u1o.ext e13
  replace u2o := u2o.ext e13
  replace E := E.trans e13
  clear e13
  go_wp2_with fail
  refine (heldIntSS_ok _ _ _ _ _ (u1o.reads) (by omega) (Nat.le_trans hres.2 (by omega)) (by omega) (by omega)).mono ?_
  rintro e w14 ⟨rfl, rfl⟩
  go_wp2_with fail
  go_ret
  exact ⟨rfl, E⟩

end Go.Proofs.Ytninamlcffemoaa
