/- Contract of the program's Determinant. -/
import Derived.Test.YtninamlcffemoaaDetW
import Derived.Test.YtninamlcffemoaaBas3
import Derived.BigRegion
import Derived.StillTailTactics
namespace Go.Proofs.Ytninamlcffemoaa
open Go.RowKit
set_option linter.unusedVariables false
set_option maxRecDepth 20000

theorem MatR.drop {w : World} {b o : Nat} {xss : List (List Int)} (h : MatR w (some ⟨b, o, none⟩) xss) (j : Nat) : MatR w (some ⟨b, o + j, none⟩) (xss.drop j) := by
  obtain ⟨rs, h⟩ := h
  refine ⟨rs.drop j, by simp [h.len], fun i hi => ?_, fun i r xs hr hx => ?_⟩
  · have hl : (RV rs xss).length = xss.length := RV_length h.len
    have e : RV (rs.drop j) (xss.drop j) = (RV rs xss).drop j := by unfold RV; rw [List.drop_zipWith]
    rw [e] at hi
    simp at hi
    obtain ⟨b', o', hab, hc⟩ := h.top (j + i) (by omega)
    injection hab with hab
    obtain ⟨rfl, rfl⟩ : b = b' ∧ o = o' := by simpa using hab
    refine ⟨b, o + j, rfl, ?_⟩
    rw [Nat.add_assoc, hc]
    congr 1
    have : (RV (rs.drop j) (xss.drop j))[i]? = (RV rs xss)[j + i]? := by rw [e, List.getElem?_drop]
    rw [List.getElem?_eq_getElem (by rw [e]; simp; omega), List.getElem?_eq_getElem (by omega)] at this
    injection this with this
    exact this.symm
  · rw [List.getElem?_drop] at hr hx
    exact h.row (j + i) r xs hr hx

theorem detFunc_ok (ra : Option Addr) (rc : Nat) (xs : List Int) (pb k : Nat) (w : World) (h : Vals w ra (I xs)) (hk : k < xs.length) (hl : xs.length ≤ 40) (hc : w.cell? ⟨pb, 0, none⟩ = some (.int .i64 k)) :
    Calls Try.prog 84 #[.slice ra xs.length rc, .pointer (some ⟨pb, 0, none⟩)] w (Quiet w (.bool (ent xs k != 0))) := by
  obtain ⟨b, o, x, rfl, hb, hx, hcx⟩ := h.atI hk
  have HX : Hid (ent xs k = x) := ent_some hx.out
  have i1 : (k : Int) < (xs.length : Int) := by omega
  rw [HX.out]
  go_enter Try.func84, Try.ntmps84
  go_wp2_with fail
  go_ret
  exact ⟨rfl, Dr.refl _⟩

theorem firstR_piv {rows : List (List Int)} {j : Nat} (h : pivAt rows j j < rows.length) : firstR (rows.drop j) (fun r => ent r j != 0) = ((pivAt rows j j - j : Nat) : Int) := by
  unfold firstR
  rw [if_neg]
  · unfold pivAt; rw [Nat.add_sub_cancel_left]
  · intro hall
    have hlt : (rows.drop j).findIdx (fun r => ent r j != 0) < (rows.drop j).length := by unfold pivAt at h; simp; omega
    have := List.findIdx_getElem (w := hlt)
    have h2 := List.all_eq_true.1 hall _ (List.getElem_mem hlt)
    simp only [this] at h2
    cases h2
theorem firstR_nopiv {rows : List (List Int)} {j : Nat} (hj : j ≤ rows.length) (h : ¬ pivAt rows j j < rows.length) : firstR (rows.drop j) (fun r => ent r j != 0) = -1 := by
  refine firstR_none (fun r hr => ?_)
  cases hq : (ent r j != 0)
  · rfl
  · exfalso
    apply h
    have hlt : (rows.drop j).findIdx (fun r => ent r j != 0) < (rows.drop j).length := List.findIdx_lt_length_of_exists ⟨r, hr, hq⟩
    unfold pivAt
    simp at hlt
    omega

/-- One row of ours may be written while another is read. -/
theorem OM.edit2 {w : World} {B C : Nat} {a : Option Addr} {c : Nat} {xss : List (List Int)} (h : OM w B C a c xss) {i j : Nat} (hi : i < xss.length) (hj : j < i) :
    ∃ b ra rc g g2 rj cj, a = some ⟨b, 0, none⟩ ∧ w.cell? ⟨b, i, none⟩ = some (.slice ra (xss.getD i []).length rc) ∧ OI w g g2 ra rc (xss.getD i []) ∧
      (∀ w' ys, OI w' g g2 ra rc ys → ys.length = (xss.getD i []).length → Span g g2 w w' → OM w' B C a c (xss.set i ys)) ∧ (∀ w', Span g g2 w w' → Span B C w w') ∧
      w.cell? ⟨b, j, none⟩ = some (.slice rj (xss.getD j []).length cj) ∧ (∀ w', Span g g2 w w' → Vals w' rj (I (xss.getD j []))) := by
  obtain ⟨rs, q1, q2, q3⟩ := h
  have hir : i < rs.length := by rw [q3.len]; exact hi
  obtain ⟨⟨ra, rc⟩, hr⟩ : ∃ r, rs[i]? = some r := ⟨_, List.getElem?_eq_getElem hir⟩
  obtain ⟨⟨rj, cj⟩, hrj⟩ : ∃ r, rs[j]? = some r := ⟨_, List.getElem?_eq_getElem (show j < rs.length by omega)⟩
  have hx : xss[i]? = some (xss.getD i []) := by simp [List.getD, hi]
  have hxj : xss[j]? = some (xss.getD j []) := by simp [List.getD, show j < xss.length by omega]
  have hrow := q3.row i _ _ hr hx
  have hrowj := q3.row j _ _ hrj hxj
  obtain ⟨g, g2, r1, r2, r3, r4⟩ := hrow.alone
  obtain ⟨b, rfl, _, _, _⟩ := OM.form ⟨rs, q1, q2, q3⟩ (show 0 < xss.length by omega)
  have hkeep : ∀ w', Span g g2 w w' → ∀ k, k < w.heap.size → blockOf ra ≠ some k → w'.heap[k]? = w.heap[k]? := fun w' hs k hk hne => hs.block k hk (by
    rcases Nat.lt_or_ge k g with h | h
    · exact .inl h
    · rcases Nat.lt_or_ge k g2 with h' | h'
      · exact absurd (r2 k h h') hne
      · exact .inr h')
  refine ⟨b, ra, rc, g, g2, rj, cj, rfl, ?_, r1, fun w' ys o hl hs => ?_, r4, ?_, fun w' hs => ?_⟩
  · rw [q1.cellAt i (by omega), RV_get, hr, hx]
    rfl
  · refine ⟨rs, ?_, q2, q3.set hr (r3 _ _ o) (hkeep w' hs)⟩
    rw [RV_set hx hl, List.length_set]
    exact ownsRow_of_block q1 fun k' hk' => hkeep w' hs k' (ownsRow_block q1 k' hk').2 (fun e => block_ne q1 hrow.1 ints_ne k' hk' e)
  · rw [q1.cellAt j (by omega), RV_get, hrj, hxj]
    rfl
  · exact (hrowj.1.of_block fun k hk' => hkeep w' hs k (hrowj.1.block k hk').2 (fun e => q3.apart j i (rj, cj) (ra, rc) hj hrj hr k hk' e)).vals

set_option maxHeartbeats 16000000 in
set_option maxRecDepth 100000 in
theorem implDeterminant_ok (a : Option Addr) (c : Nat) (m : List (List Int)) (w : World) (h : MatR w a m) (hl : m.length ≤ 1048576) (hr : ∀ xs ∈ m, xs.length ≤ 1048576) :
    Calls Try.prog 17 #[.slice a m.length c] w (Gives w (.int .i64 (detM m))) := by
  have Q := Lib.hid (implIsValidMatrix_ok a c m w h (by omega) (fun xs hx => Nat.le_trans (hr xs hx) (by omega)))
  have HR := Lib.hid hr
  clear hr
  cases q1 : validM m
  · have HD := Lib.hid (detM_bad (sq_no q1))
    rw [q1] at Q
    go_enter Try.func17, Try.ntmps17
    go_wp2_with fail
    (with_reducible refine Q.out.mono ?_)
    rintro e w1 ⟨rfl, q, rfl⟩
    go_wp2_with fail
    go_ret
    exact ⟨ret_int HD.out.symm, (Ext.refl w).drewN q⟩
  by_cases q2 : m.length = cols m
  rotate_left
  · have HD : Hid (detM m = 0) := detM_bad (by rw [q1, decide_eq_false q2]; rfl)
    have q3 : ((m.length : Int) != (cols m : Int)) = true := by simp; omega
    rw [q1] at Q
    clear q2
    go_enter Try.func17, Try.ntmps17
    go_wp2_with fail
    (with_reducible refine Q.out.mono ?_)
    rintro e w1 ⟨rfl, q, rfl⟩
    go_wp2_with (go_at_call 81; (with_reducible refine (implColumnsOf_ok _ _ _ _ (h.ext ((Ext.refl w).drewN q))).mono ?_); rintro e w' ⟨rfl, rfl⟩)
    go_ret
    exact ⟨ret_int HD.out.symm, (Ext.refl w).drewN q⟩
  have HD : Hid (detM m = detI m) := detM_good (by rw [q1, decide_eq_true q2]; rfl)
  have q3 : ((m.length : Int) != (cols m : Int)) = false := by simp [← q2]
  rw [q1] at Q
  obtain ⟨v1, v2⟩ := validM_true.1 q1
  obtain ⟨L, hL⟩ : ∃ L, Hid (L = m.length) := ⟨_, rfl⟩
  have HV : Hid (VR L m) := by rw [hL.out, q2]; exact v1
  have hL40 : L ≤ 40 := by rw [hL.out]; exact v2
  clear v1 q1 q2
  go_enter Try.func17, Try.ntmps17
  go_wp2_with fail
  (with_reducible refine Q.out.mono ?_)
  rintro e w1 ⟨rfl, q, rfl⟩
  have E0 := (Ext.refl w).drewN q
  generalize w.drewN q = w0 at *
  go_wp2_with (go_at_call 81; (with_reducible refine (implColumnsOf_ok _ _ _ _ (h.ext E0)).mono ?_); rintro e w' ⟨rfl, rfl⟩)
  (with_reducible refine (implCopy_ok _ _ _ _ (h.ext E0) hl HR.out).mono ?_)
  rintro e w1 ⟨a1, c1, rfl, o1, e1⟩
  have E1 := E0.trans e1
  have O1 := o1.mono (C := w.heap.size) (C2 := w1.heap.size) E0.size_le (Nat.le_refl _)
  clear o1 e1 E0 Q
  rw [← hL.out]
  go_wp2_with fail
  go_loopw [4, 24] (fun d k wr => ∃ (j : Nat) (rows : List (List Int)) (x : Int), k = .int .i64 j ∧ d = .int .i64 x ∧ j ≤ L ∧ Hid (detTo m j = some (rows, x)) ∧ OM wr w.heap.size wr.heap.size a1 c1 rows ∧ Ext w wr) (fun _ k _ => L - (intOf k).toNat)
  case atStart => exact ⟨0, m, 1, rfl, rfl, Nat.zero_le _, rfl, O1, E1⟩
  case round =>
    clear O1 E1
    obtain ⟨j, rows, d, rfl, rfl, hj, HG, ho, he⟩ := hrel
    have HL : Hid (rows.length = L) := by rw [detTo_len HG.out]; exact Lib.hid hL.out.symm
    have hvr := detTo_VR hL40 HV.out (by rw [hL.out]; exact Nat.le_refl _) (by rw [← hL.out]; exact hj) HG.out
    have HVR := Lib.hid hvr.1
    obtain ⟨d1, d2⟩ := hvr.2
    clear hvr
    by_cases hjL : j < L
    rotate_left
    · have HE : Hid (detI m = d) := detI_end (by rw [← hL.out, show L = j by omega]; exact HG.out)
      go_wp2_with fail
      go_ret
      exact ⟨ret_int (by rw [HD.out, HE.out]), he⟩
    have hLr : L ≤ rows.length := by rw [HL.out]; exact Nat.le_refl _
    have hcap := ho.cap
    rw [HL.out] at hcap
    unfold maxLen at hcap
    obtain ⟨g, rfl, g1, g2, g3⟩ := ho.form (by omega)
    have EB : Ext wr (wr.alloc (.cells #[.int .i64 j] 3)) := (Ext.refl wr).alloc _
    have HO := Lib.hid (ho.ext EB)
    have c0 : (wr.alloc (.cells #[.int .i64 j] 3)).cell? ⟨wr.heap.size, 0, none⟩ = some (.int .i64 j) := by simp
    have HE := Lib.hid (he.trans EB)
    have hne : ¬ c1 = j := by omega
    have i0 : (j : Int) ≤ (L : Int) := by omega
    have HIX := Lib.hid (indexDet_ok (some ⟨g, 0 + j, none⟩) (c1 - j) (rows.drop j) ⟨wr.heap.size, 0, none⟩ (fun r => ent r j != 0) _ (HO.out.reads.drop j) (by rw [List.length_drop, HL.out]; omega) (fun wv ra rc xs hd hx hv => by
      have hm := List.mem_of_mem_drop hx
      have hv2 := HVR.out xs hm
      exact detFunc_ok ra rc xs wr.heap.size j wv hv (by rw [hv2.2]; exact hjL) (validV_true.1 hv2.1).2 (hd.ext.cell c0)))
    have hdl : (rows.drop j).length = L - j := by rw [List.length_drop, HL.out]
    rw [hdl, Nat.zero_add] at HIX
    clear ho he hdl EB
    generalize hwb : wr.alloc (.cells #[.int .i64 j] 3) = wb at *
    have hsb : wr.heap.size < wb.heap.size := World.block_lt_of_cell? _ _ c0
    by_cases hpv : pivAt rows j j < rows.length
    rotate_left
    · have HS : Hid (detI m = 0) := detI_stop HG.out (by rw [← hL.out]; exact hjL) hpv
      rw [firstR_nopiv (by omega) hpv] at HIX
      clear hpv
      go_wp2_with (fail)
      (with_reducible refine HIX.out.mono ?_)
      rintro e w2 ⟨rfl, e2⟩
      go_wp2_with fail
      go_ret
      exact ⟨ret_int (by rw [HD.out, HS.out]), HE.out.trans e2.ext⟩
    have hpj : j ≤ pivAt rows j j := by unfold pivAt; omega
    obtain ⟨u, hu⟩ : ∃ u, pivAt rows j j = j + u := ⟨pivAt rows j j - j, by omega⟩
    have hpq : Hid (pivAt rows j j = j + u) := hu
    rw [firstR_piv hpv, hu, Nat.add_sub_cancel_left] at HIX
    have huL : j + u < L := by rw [← hu, ← HL.out]; exact hpv
    clear hpj hu
    obtain ⟨xs, hxs⟩ : ∃ xs, Hid (xs = rows.getD (j + u) []) := ⟨_, rfl⟩
    obtain ⟨x, hx⟩ : ∃ x, Hid (x = ent xs j) := ⟨_, rfl⟩
    have hrow := HVR.out.getD (show j + u < rows.length by omega)
    rw [← hxs.out] at hrow
    have HROW := Lib.hid hrow
    have i2 : (j : Int) < (xs.length : Int) := by omega
    have i5 : (j : Int) < (L : Int) := by omega
    have HX : Hid (inR x 0 1018 = true) := by rw [hx.out]; exact inR_true.2 (ent_range HROW.out.1 _)
    obtain ⟨dd, hdd⟩ : ∃ dd, Hid (dd = detD rows j (j + u) d) := ⟨_, rfl⟩
    have HGO : Hid (detTo m (j + 1) = some (dclTo (dSwap rows j (j + u)) xs j (invI x) L, dd)) := by
      have := detTo_go HG.out (by rw [hpq.out]; omega)
      rw [hpq.out] at this
      rw [this, hdd.out]
      unfold detRows
      rw [← hxs.out, ← hx.out, HL.out]
      exact Lib.hid rfl
    have HDD : Hid (dd = (if j + u = j then d else (0 - d) % 1019) * x % 1019) := by rw [hdd.out]; unfold detD; rw [← hxs.out, ← hx.out]; exact Lib.hid rfl
    obtain ⟨S, hS⟩ : ∃ S, Hid (S = dSwap rows j (j + u)) := ⟨_, rfl⟩
    have HSV : Hid (VR L S) := by rw [hS.out]; exact dSwap_VR hL40 HVR.out (by omega) (by omega)
    have HSL : Hid (S.length = L) := by rw [hS.out, dSwap_length]; exact HL
    have HSJ : Hid (S.getD j [] = xs) := by rw [hS.out, dSwap_getD (by omega) (by omega), if_pos rfl]; exact hxs.out.symm
    rw [← hS.out] at HGO
    have hiv := invI_range (inR_true.1 HX.out).1 (inR_true.1 HX.out).2
    have HIV : Hid (inR (invI x) 0 1018 = true) := inR_true.2 hiv
    obtain ⟨iv, hive⟩ : ∃ iv, Hid (iv = invI x) := ⟨_, rfl⟩
    rw [← hive.out] at HIV HGO
    have CI : Hid (∀ W : World, Calls Try.prog 87 #[.int .i64 x] W fun e w' => e = .returned (.int .i64 iv) ∧ W = w') := fun W => by rw [hive.out]; exact implInverseField_ok x W HX.out
    clear hrow hiv hpv
    have hp0 : ¬ ((u : Int) < 0) := by omega
    by_cases hu0 : 0 < u
    · as_aux_lemma =>
        have hu1 : (0 : Int) < (u : Int) := by omega
        have HDV : Hid ((0 - d) % 1019 * x % 1019 = dd) := by rw [HDD.out, if_neg (by omega)]; exact Lib.hid rfl
        have HDR : Hid (inR ((0 - d) % 1019) 0 1018 = true) := inR_true.2 (by omega)
        go_wp2_with fail
        (with_reducible refine HIX.out.mono ?_)
        rintro e w2 ⟨rfl, e2⟩
        have O2 := HO.out.ext e2.ext
        have E2 := HE.out.trans e2.ext
        have c2 := e2.ext.cell c0
        obtain ⟨rk, ck, rp, cp, x1, x2, x3, _, x5⟩ := O2.exch (k := j) (p := j + u) (by omega) (by omega)
        have z2 := e2.ext.size_le
        replace x5 := x5 (by omega)
        obtain ⟨ks, hks⟩ : ∃ ks, Hid (ks = rows.getD j []) := ⟨_, rfl⟩
        rw [← hks.out] at x1 x5
        rw [← hxs.out] at x2 x5
        rw [← hS.out] at x5
        obtain ⟨d', hd'⟩ : ∃ d', Hid (d' = (0 - d) % 1019) := ⟨_, rfl⟩
        rw [← hd'.out] at HDV HDR
        have CS : Hid (∀ W : World, Calls Try.prog 85 #[.int .i64 0, .int .i64 d] W fun e w' => e = .returned (.int .i64 d') ∧ W = w') := fun W => by rw [hd'.out]; exact implSubField_ok 0 d W rfl (inR_true.2 ⟨d1, d2⟩)
        have HM : OM ((w2.setCell ⟨g, j, none⟩ (.slice rp xs.length cp)).setCell ⟨g, j + u, none⟩ (.slice rk ks.length ck)).drew w.heap.size wr.heap.size (some ⟨g, 0, none⟩) c1 S := x5.ext (Ext.refl _).drew
        have HEW := ((E2.setCell (p := ⟨g, j, none⟩) g1 (.slice rp xs.length cp)).setCell (p := ⟨g, j + u, none⟩) g1 (.slice rk ks.length ck)).drew
        have cW : ((w2.setCell ⟨g, j, none⟩ (.slice rp xs.length cp)).setCell ⟨g, j + u, none⟩ (.slice rk ks.length ck)).drew.cell? ⟨wr.heap.size, 0, none⟩ = some (.int .i64 j) := by
          refine ((Ext.refl _).drew.cell ((World.cell?_setCell_far _ _ _ _ ?_).trans ((World.cell?_setCell_far _ _ _ _ ?_).trans c2)))
          · show g ≠ wr.heap.size; omega
          · show g ≠ wr.heap.size; omega
        replace HM := Lib.hid HM
        replace HEW := Lib.hid HEW
        replace cW := Lib.hid cW
        clear HIX HO e2 c0 HE O2 x5 E2
        go_wp2_with fail
        go_region
        go_wp2_with fail
        (with_reducible refine (CS.out _).mono ?_)
        rintro e w4 ⟨rfl, rfl⟩
        clear x1 x2 x3 c2 CS
        generalize ((w2.setCell ⟨g, j, none⟩ (.slice rp xs.length cp)).setCell ⟨g, j + u, none⟩ (.slice rk ks.length ck)).drew = W at *
        have CM : Hid (∀ W : World, Calls Try.prog 86 #[.int .i64 d', .int .i64 x] W fun e w' => e = .returned (.int .i64 dd) ∧ W = w') := fun W => by rw [← HDV.out]; exact implMulField_ok d' x W HDR.out HX.out
        obtain ⟨rbj, rcj, m1, _, _, _, m5⟩ := HM.out.num (i := j) (j := j) (by rw [HSL.out]; exact hjL) (by rw [HSJ.out]; omega)
        rw [HSJ.out] at m1 m5
        rw [← hx.out] at m5
        have b0 := cW.out
        go_wp2_with fail
        go_quiet (first | (go_at_call 86; exact Calls.same_quiet (CM.out _)))
        replace HM := Lib.hid (HM.out.ext ((Ext.refl W).drewN nq))
        replace HEW := Lib.hid (HEW.out.drewN nq)
        replace m1 := ((Ext.refl W).drewN nq).cell m1
        replace m5 := ((Ext.refl W).drewN nq).cell m5
        replace b0 := ((Ext.refl W).drewN nq).cell b0
        clear cW CM
        generalize W.drewN nq = W1 at *
        go_wp2_with fail
        go_quiet (first | (go_at_call 87; exact Calls.same_quiet (CI.out _)))
        replace HM := Lib.hid (HM.out.ext ((Ext.refl W1).drewN nq))
        replace HEW := Lib.hid (HEW.out.drewN nq)
        replace b0 := ((Ext.refl W1).drewN nq).cell b0
        clear m1 m5 CI
        generalize W1.drewN nq = W2 at *
        have i8 : (j : Int) + 1 ≤ (L : Int) := by omega
        have i9 : j + 1 ≤ L := by omega
        have hzb : wr.heap.size < W2.heap.size := World.block_lt_of_cell? _ _ b0
        generalize wr.heap.size = Z at *
        by_cases hce : c1 = j + 1
        · have hLj : Hid (L = j + 1) := Lib.hid (by omega)
          have i10 : ¬ (0 : Int) < ((L - (j + 1) : Nat) : Int) := by omega
          have HM3 : Hid (OM W2 w.heap.size W2.heap.size (some ⟨g, 0, none⟩) c1 (dclTo S xs j iv L)) := by rw [hLj.out, dclTo_start]; exact HM.out.mono (Nat.le_refl _) (by omega)
          subst hce
          go_wp2_with fail
          go_loopw [78] (fun i wv => i = .int .i64 0 ∧ wv = W2) (fun _ _ => 0)
          case atStart => exact ⟨rfl, rfl⟩
          case round =>
            obtain ⟨rfl, rfl⟩ := hrel
            go_wp2_with fail
            go_roundw
            case rel => exact ⟨j + 1, _, dd, by go_num, rfl, by omega, HGO, HM3.out, HEW.out⟩
            case measure => simp [intOf]; omega
        · go_wp2_with fail
          go_loopw [78] (fun i wv => ∃ t : Nat, i = .int .i64 t ∧ j + 1 + t ≤ L ∧ OM wv w.heap.size Z (some ⟨g, 0, none⟩) c1 (dclTo S xs j iv (j + 1 + t)) ∧ Ext w wv ∧ wv.cell? ⟨Z, 0, none⟩ = some (.int .i64 j)) (fun i _ => L - (intOf i).toNat)
          case atStart => exact ⟨0, rfl, i9, by rw [Nat.add_zero, dclTo_start]; exact HM.out, HEW.out, b0⟩
          case round =>
            as_aux_lemma =>
              clear HM HEW b0 hzb
              obtain ⟨t, rfl, ht, M, E, b0⟩ := hrel
              have hzv : Z < wr.heap.size := World.block_lt_of_cell? _ _ b0
              by_cases htL : j + 1 + t < L
              rotate_left
              · have htt : Hid (j + 1 + t = L) := Lib.hid (by omega)
                have i11 : ¬ (t : Int) < ((L - (j + 1) : Nat) : Int) := by omega
                rw [htt.out] at M
                go_wp2_with fail
                go_roundw
                case rel => exact ⟨j + 1, _, dd, by go_num, rfl, by omega, HGO, M.mono (Nat.le_refl _) (by omega), E⟩
                case measure => simp [intOf]; omega
              have i11 : (t : Int) < ((L - (j + 1) : Nat) : Int) := by omega
              obtain ⟨C, hC⟩ : ∃ C, Hid (C = dclTo S xs j iv (j + 1 + t)) := ⟨_, rfl⟩
              have hSl : L ≤ S.length := by rw [HSL.out]; exact Nat.le_refl _
              have hCl : Hid (C.length = L) := by rw [hC.out, dclTo_length]; exact HSL
              have hCL : L ≤ C.length := by rw [hCl.out]; exact Nat.le_refl _
              have hCt : Hid (C.getD (j + 1 + t) [] = S.getD (j + 1 + t) []) := by rw [hC.out, getD_some (dclTo_get (getD_get (show j + 1 + t < S.length by omega))), if_neg (by omega)]; exact Lib.hid rfl
              have hCj : Hid (C.getD j [] = xs) := by rw [hC.out, getD_some (dclTo_get (getD_get (show j < S.length by omega))), if_neg (by omega)]; exact HSJ
              have hrow2 := HSV.out.getD (show j + 1 + t < S.length by omega)
              rw [← hC.out] at M
              obtain ⟨b, ra, rc, gg, gg2, rj, cj, hab, t1, t2, t3, t4, t5, t6⟩ := (M.ext (Ext.refl wr).drew).edit2 (i := j + 1 + t) (j := j) (by omega) (by omega)
              obtain rfl : b = g := by simpa using hab.symm
              rw [hCt.out] at t1 t2 t3
              rw [hCj.out] at t5 t6
              obtain ⟨ys, hys⟩ : ∃ ys, Hid (ys = S.getD (j + 1 + t) []) := ⟨_, rfl⟩
              obtain ⟨y, hy⟩ : ∃ y, Hid (y = ent ys j) := ⟨_, rfl⟩
              rw [← hys.out] at t1 t2 t3 hrow2
              have HR2 := Lib.hid hrow2
              have i7 : (j : Int) < (ys.length : Int) := by omega
              obtain ⟨rb2, rfl, _, _, _⟩ := t2.form (by omega)
              have hcx := t2.cellAt (ent_get (show j < ys.length by omega))
              rw [← hy.out] at hcx
              have HYR : Hid (inR y 0 1018 = true) := by rw [hy.out]; exact inR_true.2 (ent_range HR2.out.1 _)
              obtain ⟨p1, hp1⟩ : ∃ p1, Hid (p1 = y * iv % 1019) := ⟨_, rfl⟩
              have HP1 : Hid (inR p1 0 1018 = true) := by rw [hp1.out]; exact inR_true.2 (mod_el _)
              obtain ⟨z, hz⟩ : ∃ z, Hid (z = (0 - p1) % 1019) := ⟨_, rfl⟩
              have HZR : Hid (inR z 0 1018 = true) := by rw [hz.out]; exact inR_true.2 (by omega)
              obtain ⟨zs, hzs⟩ : ∃ zs, Hid (zs = addS ys xs z) := ⟨_, rfl⟩
              have hk : Hid (dclTo S xs j iv (j + 1 + t + 1) = C.set (j + 1 + t) zs) := by
                rw [dclTo_succ (getD_get (show j + 1 + t < S.length by omega)) (by omega), ← hC.out, ← hys.out, hzs.out, hz.out, hp1.out]
                unfold dcl dk
                rw [← hy.out]
                exact Lib.hid rfl
              have hlen : ys.length = xs.length := by rw [HR2.out.2.1, HROW.out.2.1]
              have A1 : Hid (∀ W : World, Calls Try.prog 86 #[.int .i64 y, .int .i64 iv] W fun e w' => e = .returned (.int .i64 p1) ∧ w' = W) := fun W => by rw [hp1.out]; exact (implMulField_ok y iv W HYR.out HIV.out).mono (by rintro e w' ⟨rfl, rfl⟩; exact ⟨rfl, rfl⟩)
              have A2 : Hid (∀ W : World, Calls Try.prog 85 #[.int .i64 0, .int .i64 p1] W fun e w' => e = .returned (.int .i64 z) ∧ w' = W) := fun W => by rw [hz.out]; exact (implSubField_ok 0 p1 W rfl HP1.out).mono (by rintro e w' ⟨rfl, rfl⟩; exact ⟨rfl, rfl⟩)
              have A3 := addScaled_ok gg gg2 (some ⟨rb2, 0, none⟩) rj rc cj ys xs z wr.drew t2 t6 hlen HROW.out.2.2 HR2.out.1 HROW.out.1 HZR.out
              rw [← hzs.out] at A3
              have HA3 := Lib.hid A3
              have HZL : Hid (zs.length = ys.length) := by rw [hzs.out]; exact addS_len hlen _
              have T3 := Lib.hid t3
              have T4 := Lib.hid t4
              have n1 : wr.cell? ⟨b, j + 1 + t, none⟩ = some (.slice (some ⟨rb2, 0, none⟩) ys.length rc) := t1
              have y1 : ({ wr with drawn := wr.drawn + 1 } : World).cell? ⟨Z, 0, none⟩ = some (.int .i64 j) := b0
              have y2 : ({ wr with drawn := wr.drawn + 1 } : World).cell? ⟨b, j, none⟩ = some (.slice rj xs.length cj) := t5
              have y3 : ({ wr with drawn := wr.drawn + 1 } : World).cell? ⟨rb2, j, none⟩ = some (.int .i64 y) := hcx
              clear hlen A3 t1 t2 t3 t4 t6 hab hrow2
              go_wp2_with fail
              go_still_tail 12, (by kernel_rfl)
              still_call (A1.out _)
              still_call (A2.out _)
              refine wpStill_nil ?_
              change wpList _ _ _ _ _ wr.drew
              go_wp2_with fail
              (with_reducible refine HA3.out.mono ?_)
              rintro e w5 ⟨rfl, o5, s5⟩
              have P5 := T3.out w5 _ o5 HZL.out s5
              rw [← hk.out] at P5
              have S5 := T4.out _ s5
              have E5 := Span.ext E.drew S5 (Nat.le_refl _)
              have b5 := S5.cell (p := ⟨Z, 0, none⟩) (v := .int .i64 j) ((Ext.refl wr).drew.cell b0) (.inr (Nat.le_refl _))
              clear T3 T4 y1 y2 y3 n1 o5 s5 S5 M E A1 A2 HA3
              go_wp2_with fail
              go_roundw
              case rel => exact ⟨t + 1, by go_num, by omega, P5, E5, b5⟩
              case measure => simp [intOf]; omega
    · as_aux_lemma =>
        have hu1 : ¬ (0 : Int) < (u : Int) := by omega
        obtain rfl : u = 0 := by omega
        have HDV : Hid (d * x % 1019 = dd) := by rw [HDD.out, if_pos (by omega)]; exact Lib.hid rfl
        have HDR : Hid (inR d 0 1018 = true) := inR_true.2 ⟨d1, d2⟩
        have CM : Hid (∀ W : World, Calls Try.prog 86 #[.int .i64 d, .int .i64 x] W fun e w' => e = .returned (.int .i64 dd) ∧ W = w') := fun W => by rw [← HDV.out]; exact implMulField_ok d x W HDR.out HX.out
        go_wp2_with fail
        (with_reducible refine HIX.out.mono ?_)
        rintro e W ⟨rfl, e2⟩
        have HM := Lib.hid (HO.out.ext e2.ext)
        rw [show rows = S by rw [hS.out, Nat.add_zero, dSwap_self (by omega)]] at HM
        have HEW := Lib.hid (HE.out.trans e2.ext)
        have cW := Lib.hid (e2.ext.cell c0)
        clear HIX HO e2 c0 HE
        obtain ⟨rbj, rcj, m1, _, _, _, m5⟩ := HM.out.num (i := j) (j := j) (by rw [HSL.out]; exact hjL) (by rw [HSJ.out]; omega)
        rw [HSJ.out] at m1 m5
        rw [← hx.out] at m5
        have b0 := cW.out
        go_wp2_with fail
        go_quiet (first | (go_at_call 86; exact Calls.same_quiet (CM.out _)))
        replace HM := Lib.hid (HM.out.ext ((Ext.refl W).drewN nq))
        replace HEW := Lib.hid (HEW.out.drewN nq)
        replace m1 := ((Ext.refl W).drewN nq).cell m1
        replace m5 := ((Ext.refl W).drewN nq).cell m5
        replace b0 := ((Ext.refl W).drewN nq).cell b0
        clear cW CM
        generalize W.drewN nq = W1 at *
        go_wp2_with fail
        go_quiet (first | (go_at_call 87; exact Calls.same_quiet (CI.out _)))
        replace HM := Lib.hid (HM.out.ext ((Ext.refl W1).drewN nq))
        replace HEW := Lib.hid (HEW.out.drewN nq)
        replace b0 := ((Ext.refl W1).drewN nq).cell b0
        clear m1 m5 CI
        generalize W1.drewN nq = W2 at *
        have i8 : (j : Int) + 1 ≤ (L : Int) := by omega
        have i9 : j + 1 ≤ L := by omega
        have hzb : wr.heap.size < W2.heap.size := World.block_lt_of_cell? _ _ b0
        generalize wr.heap.size = Z at *
        by_cases hce : c1 = j + 1
        · have hLj : Hid (L = j + 1) := Lib.hid (by omega)
          have i10 : ¬ (0 : Int) < ((L - (j + 1) : Nat) : Int) := by omega
          have HM3 : Hid (OM W2 w.heap.size W2.heap.size (some ⟨g, 0, none⟩) c1 (dclTo S xs j iv L)) := by rw [hLj.out, dclTo_start]; exact HM.out.mono (Nat.le_refl _) (by omega)
          subst hce
          go_wp2_with fail
          go_loopw [78] (fun i wv => i = .int .i64 0 ∧ wv = W2) (fun _ _ => 0)
          case atStart => exact ⟨rfl, rfl⟩
          case round =>
            obtain ⟨rfl, rfl⟩ := hrel
            go_wp2_with fail
            go_roundw
            case rel => exact ⟨j + 1, _, dd, by go_num, rfl, by omega, HGO, HM3.out, HEW.out⟩
            case measure => simp [intOf]; omega
        · go_wp2_with fail
          go_loopw [78] (fun i wv => ∃ t : Nat, i = .int .i64 t ∧ j + 1 + t ≤ L ∧ OM wv w.heap.size Z (some ⟨g, 0, none⟩) c1 (dclTo S xs j iv (j + 1 + t)) ∧ Ext w wv ∧ wv.cell? ⟨Z, 0, none⟩ = some (.int .i64 j)) (fun i _ => L - (intOf i).toNat)
          case atStart => exact ⟨0, rfl, i9, by rw [Nat.add_zero, dclTo_start]; exact HM.out, HEW.out, b0⟩
          case round =>
            as_aux_lemma =>
              clear HM HEW b0 hzb
              obtain ⟨t, rfl, ht, M, E, b0⟩ := hrel
              have hzv : Z < wr.heap.size := World.block_lt_of_cell? _ _ b0
              by_cases htL : j + 1 + t < L
              rotate_left
              · have htt : Hid (j + 1 + t = L) := Lib.hid (by omega)
                have i11 : ¬ (t : Int) < ((L - (j + 1) : Nat) : Int) := by omega
                rw [htt.out] at M
                go_wp2_with fail
                go_roundw
                case rel => exact ⟨j + 1, _, dd, by go_num, rfl, by omega, HGO, M.mono (Nat.le_refl _) (by omega), E⟩
                case measure => simp [intOf]; omega
              have i11 : (t : Int) < ((L - (j + 1) : Nat) : Int) := by omega
              obtain ⟨C, hC⟩ : ∃ C, Hid (C = dclTo S xs j iv (j + 1 + t)) := ⟨_, rfl⟩
              have hSl : L ≤ S.length := by rw [HSL.out]; exact Nat.le_refl _
              have hCl : Hid (C.length = L) := by rw [hC.out, dclTo_length]; exact HSL
              have hCL : L ≤ C.length := by rw [hCl.out]; exact Nat.le_refl _
              have hCt : Hid (C.getD (j + 1 + t) [] = S.getD (j + 1 + t) []) := by rw [hC.out, getD_some (dclTo_get (getD_get (show j + 1 + t < S.length by omega))), if_neg (by omega)]; exact Lib.hid rfl
              have hCj : Hid (C.getD j [] = xs) := by rw [hC.out, getD_some (dclTo_get (getD_get (show j < S.length by omega))), if_neg (by omega)]; exact HSJ
              have hrow2 := HSV.out.getD (show j + 1 + t < S.length by omega)
              rw [← hC.out] at M
              obtain ⟨b, ra, rc, gg, gg2, rj, cj, hab, t1, t2, t3, t4, t5, t6⟩ := (M.ext (Ext.refl wr).drew).edit2 (i := j + 1 + t) (j := j) (by omega) (by omega)
              obtain rfl : b = g := by simpa using hab.symm
              rw [hCt.out] at t1 t2 t3
              rw [hCj.out] at t5 t6
              obtain ⟨ys, hys⟩ : ∃ ys, Hid (ys = S.getD (j + 1 + t) []) := ⟨_, rfl⟩
              obtain ⟨y, hy⟩ : ∃ y, Hid (y = ent ys j) := ⟨_, rfl⟩
              rw [← hys.out] at t1 t2 t3 hrow2
              have HR2 := Lib.hid hrow2
              have i7 : (j : Int) < (ys.length : Int) := by omega
              obtain ⟨rb2, rfl, _, _, _⟩ := t2.form (by omega)
              have hcx := t2.cellAt (ent_get (show j < ys.length by omega))
              rw [← hy.out] at hcx
              have HYR : Hid (inR y 0 1018 = true) := by rw [hy.out]; exact inR_true.2 (ent_range HR2.out.1 _)
              obtain ⟨p1, hp1⟩ : ∃ p1, Hid (p1 = y * iv % 1019) := ⟨_, rfl⟩
              have HP1 : Hid (inR p1 0 1018 = true) := by rw [hp1.out]; exact inR_true.2 (mod_el _)
              obtain ⟨z, hz⟩ : ∃ z, Hid (z = (0 - p1) % 1019) := ⟨_, rfl⟩
              have HZR : Hid (inR z 0 1018 = true) := by rw [hz.out]; exact inR_true.2 (by omega)
              obtain ⟨zs, hzs⟩ : ∃ zs, Hid (zs = addS ys xs z) := ⟨_, rfl⟩
              have hk : Hid (dclTo S xs j iv (j + 1 + t + 1) = C.set (j + 1 + t) zs) := by
                rw [dclTo_succ (getD_get (show j + 1 + t < S.length by omega)) (by omega), ← hC.out, ← hys.out, hzs.out, hz.out, hp1.out]
                unfold dcl dk
                rw [← hy.out]
                exact Lib.hid rfl
              have hlen : ys.length = xs.length := by rw [HR2.out.2.1, HROW.out.2.1]
              have A1 : Hid (∀ W : World, Calls Try.prog 86 #[.int .i64 y, .int .i64 iv] W fun e w' => e = .returned (.int .i64 p1) ∧ w' = W) := fun W => by rw [hp1.out]; exact (implMulField_ok y iv W HYR.out HIV.out).mono (by rintro e w' ⟨rfl, rfl⟩; exact ⟨rfl, rfl⟩)
              have A2 : Hid (∀ W : World, Calls Try.prog 85 #[.int .i64 0, .int .i64 p1] W fun e w' => e = .returned (.int .i64 z) ∧ w' = W) := fun W => by rw [hz.out]; exact (implSubField_ok 0 p1 W rfl HP1.out).mono (by rintro e w' ⟨rfl, rfl⟩; exact ⟨rfl, rfl⟩)
              have A3 := addScaled_ok gg gg2 (some ⟨rb2, 0, none⟩) rj rc cj ys xs z wr.drew t2 t6 hlen HROW.out.2.2 HR2.out.1 HROW.out.1 HZR.out
              rw [← hzs.out] at A3
              have HA3 := Lib.hid A3
              have HZL : Hid (zs.length = ys.length) := by rw [hzs.out]; exact addS_len hlen _
              have T3 := Lib.hid t3
              have T4 := Lib.hid t4
              have n1 : wr.cell? ⟨b, j + 1 + t, none⟩ = some (.slice (some ⟨rb2, 0, none⟩) ys.length rc) := t1
              have y1 : ({ wr with drawn := wr.drawn + 1 } : World).cell? ⟨Z, 0, none⟩ = some (.int .i64 j) := b0
              have y2 : ({ wr with drawn := wr.drawn + 1 } : World).cell? ⟨b, j, none⟩ = some (.slice rj xs.length cj) := t5
              have y3 : ({ wr with drawn := wr.drawn + 1 } : World).cell? ⟨rb2, j, none⟩ = some (.int .i64 y) := hcx
              clear hlen A3 t1 t2 t3 t4 t6 hab hrow2
              go_wp2_with fail
              go_still_tail 12, (by kernel_rfl)
              still_call (A1.out _)
              still_call (A2.out _)
              refine wpStill_nil ?_
              change wpList _ _ _ _ _ wr.drew
              go_wp2_with fail
              (with_reducible refine HA3.out.mono ?_)
              rintro e w5 ⟨rfl, o5, s5⟩
              have P5 := T3.out w5 _ o5 HZL.out s5
              rw [← hk.out] at P5
              have S5 := T4.out _ s5
              have E5 := Span.ext E.drew S5 (Nat.le_refl _)
              have b5 := S5.cell (p := ⟨Z, 0, none⟩) (v := .int .i64 j) ((Ext.refl wr).drew.cell b0) (.inr (Nat.le_refl _))
              clear T3 T4 y1 y2 y3 n1 o5 s5 S5 M E A1 A2 HA3
              go_wp2_with fail
              go_roundw
              case rel => exact ⟨t + 1, by go_num, by omega, P5, E5, b5⟩
              case measure => simp [intOf]; omega

end Go.Proofs.Ytninamlcffemoaa
