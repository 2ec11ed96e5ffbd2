/- Contract of the reference's elimination l7Reduce; RowReduce, Rank, IsReduced of the reference. -/
import Derived.Test.YtninamlcffemoaaFld
import Derived.Deep.RegionLaw
namespace Go.Proofs.Ytninamlcffemoaa
open Go.RowKit
set_option linter.unusedVariables false
set_option maxRecDepth 20000

/-- One row of owned rows. -/
theorem OM.row {w : World} {B C g c : Nat} {xss : List (List Int)} (h : OM w B C (some ⟨g, 0, none⟩) c xss) {i : Nat} (hi : i < xss.length) :
    ∃ ra rc, w.cell? ⟨g, i, none⟩ = some (.slice ra (xss.getD i []).length rc) ∧ OI w B C ra rc (xss.getD i []) ∧ w.frozen? ⟨g, i, none⟩ = false ∧ (∀ k, blockOf ra = some k → k ≠ g) := by
  obtain ⟨rs, q1, q2, q3⟩ := h
  have hir : i < rs.length := by rw [q3.len]; exact hi
  have hx : xss[i]? = some (xss.getD i []) := getD_get hi
  refine ⟨rs[i].1, rs[i].2, ?_, q3.row i rs[i] _ (List.getElem?_eq_getElem hir) hx, q1.frozenAt i, fun k hk e => ?_⟩
  · rw [q1.cellAt i (by omega), RV_get, List.getElem?_eq_getElem hir, hx]
    rfl
  · subst e
    exact block_ne q1 (q3.row i rs[i] _ (List.getElem?_eq_getElem hir) hx).1 ints_ne k rfl hk
/-- One number of one row. -/
theorem OM.num {w : World} {B C g c : Nat} {xss : List (List Int)} (h : OM w B C (some ⟨g, 0, none⟩) c xss) {i j : Nat} (hi : i < xss.length) (hj : j < (xss.getD i []).length) :
    ∃ rb rc, w.cell? ⟨g, i, none⟩ = some (.slice (some ⟨rb, 0, none⟩) (xss.getD i []).length rc) ∧ OI w B C (some ⟨rb, 0, none⟩) rc (xss.getD i []) ∧ w.frozen? ⟨g, i, none⟩ = false ∧ rb ≠ g ∧ w.cell? ⟨rb, j, none⟩ = some (.int .i64 (ent (xss.getD i []) j)) := by
  obtain ⟨ra, rc, h1, h2, h3, h4⟩ := h.row hi
  obtain ⟨rb, rfl, _, _, _⟩ := h2.form (by omega)
  exact ⟨rb, rc, h1, h2, h3, h4 rb rfl, h2.cellAt (ent_get hj)⟩

theorem OI.set_other {w : World} {B C : Nat} {a : Option Addr} {c : Nat} {xs : List Int} (h : OI w B C a c xs) {p : Addr} {u : Value} (hp : ∀ k, blockOf a = some k → k ≠ p.block) : OI (w.setCell p u) B C a c xs :=
  ⟨h.1.of_block fun k hk => Below.heap_setCell _ _ _ _ (by have := hp k hk; omega), h.2⟩
theorem add_zero (a : Option Addr) : Option.map (fun x => Addr.add x 0) a = a := by cases a <;> rfl

theorem clearTo_at {S : List (List Int)} {lr : List Int} {j t i : Nat} (hi : i < S.length) : (clearTo S lr j t i).getD i [] = S.getD i [] := by
  rw [clearTo_getD hi]
  split
  · rfl
  · rw [if_neg (by omega)]
theorem clearTo_piv {S : List (List Int)} {lr : List Int} {j t i : Nat} (ht : t < S.length) : (clearTo S lr j t i).getD t [] = S.getD t [] := by
  rw [clearTo_getD ht, if_pos rfl]
theorem clearTo_keep {S : List (List Int)} {lr : List Int} {j t i : Nat} (hi : i < S.length) (h : i = t ∨ el (S.getD i []) lr j = S.getD i []) : clearTo S lr j t (i + 1) = clearTo S lr j t i := by
  rw [clearTo_succ hi]
  have e : (if i = t then S.getD i [] else el (S.getD i []) lr j) = (clearTo S lr j t i).getD i [] := by
    rw [clearTo_at hi]
    rcases h with h | h
    · rw [if_pos h]
    · rw [h]; split <;> rfl
  rw [e]
  apply List.ext_getElem?
  intro k
  rw [List.getElem?_set]
  by_cases hk : i = k
  · subst hk
    rw [if_pos rfl, if_pos (by rw [clearTo_length]; exact hi), getD_get (by rw [clearTo_length]; exact hi)]
  · rw [if_neg hk]
theorem gjTo_stop {m rows : List (List Int)} {j t : Nat} (h : gjTo m j = (rows, t)) (ht : ¬ t < rows.length) : ∀ n, j ≤ n → gjTo m n = (rows, t) := by
  intro n hn
  induction n with
  | zero => rwa [show j = 0 by omega] at h
  | succ n ih =>
    by_cases e : j = n + 1
    · rw [← e]; exact h
    · rw [gjTo, ih (by omega)]; simp only [gjStep]; rw [if_neg ht]
theorem gjTo_skip {m rows : List (List Int)} {j t : Nat} (h : gjTo m j = (rows, t)) (hp : ¬ pivAt rows j t < rows.length) : gjTo m (j + 1) = (rows, t) := by
  rw [gjTo, h]; simp only [gjStep]
  rw [if_neg hp]
  split <;> rfl
theorem gjTo_step {m rows : List (List Int)} {j t : Nat} (h : gjTo m j = (rows, t)) (ht : t < rows.length) (hp : pivAt rows j t < rows.length) : gjTo m (j + 1) = (gjRows rows j t (pivAt rows j t), t + 1) := by
  rw [gjTo, h]; simp only [gjStep]; rw [if_pos ht, if_pos hp]

set_option maxHeartbeats 8000000 in
set_option maxRecDepth 100000 in
theorem specReduce_ok (a : Option Addr) (c : Nat) (m : List (List Int)) (n cl : Nat) (w : World) (h : MatR w a m) (hv : VR n m) (hn : n ≤ 40) (hcl : cl ≤ n) (hl : m.length ≤ 1048576) :
    Calls Try.prog 90 #[.slice a m.length c, .int .i64 cl] w (NewM w (gj m cl)) := by
  have HR : Hid (∀ xs ∈ m, xs.length ≤ 1048576) := fun xs hx => by have := (hv xs hx).2; omega
  have HV := Lib.hid hv
  clear hv
  go_enter Try.func90, Try.ntmps90
  go_wp2_with fail
  refine (specCopy_ok _ _ _ _ h hl HR.out).mono ?_
  rintro e w1 ⟨a1, c1, rfl, o1, e1⟩
  obtain ⟨L, hL⟩ : ∃ L, Hid (L = m.length) := ⟨_, rfl⟩
  have hl' : L ≤ 1048576 := by rw [hL.out]; exact hl
  rw [← hL.out]
  go_wp2_with fail
  go_loopw [6, 7] (fun at_ k wr => ∃ (j t : Nat) (rows : List (List Int)), k = .int .i64 j ∧ at_ = .int .i64 t ∧ j ≤ cl ∧ Hid (gjTo m j = (rows, t)) ∧ Hid (rows.length = L) ∧ t ≤ L ∧ Hid (VR n rows) ∧ OM wr w.heap.size wr.heap.size a1 c1 rows ∧ Ext w wr) (fun _ k _ => cl - (intOf k).toNat)
  case atStart => exact ⟨0, 0, m, rfl, rfl, Nat.zero_le _, rfl, hL.out.symm, Nat.zero_le _, HV.out, o1, e1⟩
  case round =>
    clear o1 e1
    obtain ⟨j, t, rows, rfl, rfl, hj, HG, HL, ht, HVR, ho, he⟩ := hrel
    have fin : Hid (¬ (j < cl ∧ t < L) → OM wr w.heap.size wr.heap.size a1 c1 (gj m cl) ∧ (gj m cl).length = t) := fun hc => by
      have hg : gjTo m cl = (rows, t) := by
        by_cases hjc : j < cl
        · exact gjTo_stop HG.out (by rw [HL.out]; exact fun e => hc ⟨hjc, e⟩) cl hj
        · rw [show cl = j by omega]; exact HG.out
      unfold gj
      rw [hg]
      exact ⟨ho.take (by rw [HL.out]; exact ht), by simp [HL.out]; omega⟩
    have hcap := ho.cap.1
    rw [HL.out] at hcap
    by_cases hjc : j < cl
    rotate_left
    · have HF := Lib.hid (fin.out (fun e => hjc e.1))
      have haz := add_zero a1
      have htc : t ≤ c1 := by omega
      clear fin ho hcap
      go_wp2_with fail
      go_ret
      exact ⟨a1, c1, by rw [HF.out.2]; rfl, HF.out.1, he⟩
    by_cases htl : t < L
    rotate_left
    · have HF := Lib.hid (fin.out (fun e => htl e.2))
      have haz := add_zero a1
      have htc : t ≤ c1 := by omega
      clear fin ho hcap
      go_wp2_with fail
      go_ret
      exact ⟨a1, c1, by rw [HF.out.2]; rfl, HF.out.1, he⟩
    clear fin
    have hLr : L ≤ rows.length := by rw [HL.out]; exact Nat.le_refl _
    obtain ⟨g, rfl, g1, g2, g3⟩ := ho.form (by omega)
    have HO := Lib.hid ho
    clear ho hcap
    go_wp2_with fail
    go_loop [8] (fun p => ∃ q : Nat, p = .int .i64 q ∧ t ≤ q ∧ q ≤ L ∧ Hid (∀ i, t ≤ i → i < q → ent (rows.getD i []) j = 0)) (fun p => L - (intOf p).toNat)
    case atStart => exact ⟨t, rfl, Nat.le_refl _, by omega, fun i h1 h2 => by omega⟩
    case round =>
      obtain ⟨q, rfl, hq1, hq2, HZ⟩ := hrel
      by_cases hq : q < L
      rotate_left
      · have hp : Hid (gjTo m (j + 1) = (rows, t)) := gjTo_skip HG.out (by
          have : pivAt rows j t = q := pivAt_eq hq1 (by omega) HZ.out (fun e => by rw [HL.out] at e; omega)
          rw [this, HL.out]; exact hq)
        have hqe : ((q : Int) == (L : Int)) = true := by simp; omega
        go_wp2_with fail
        go_roundw
        case rel => exact ⟨j + 1, t, rows, by go_num, rfl, by omega, hp, HL, ht, HVR, HO.out, he⟩
        case measure => simp [intOf]; omega
      have hrow := HVR.out.getD (show q < rows.length by omega)
      obtain ⟨rb, rc, k1, k2, k3, k4, k5⟩ := HO.out.num (i := q) (j := j) (by omega) (by omega)
      have hjr : j < (rows.getD q []).length := by omega
      obtain ⟨xs, hxs⟩ : ∃ xs, Hid (xs = rows.getD q []) := ⟨_, rfl⟩
      obtain ⟨x, hx⟩ : ∃ x, Hid (x = ent xs j) := ⟨_, rfl⟩
      rw [← hxs.out] at hrow k1 k2 k5 hjr
      rw [← hx.out] at k5
      have HROW := Lib.hid hrow
      have K2 := Lib.hid k2
      clear hrow k2
      have i1 : (q : Int) < (L : Int) := by omega
      have i2 : (j : Int) < (xs.length : Int) := by omega
      by_cases hx0 : x = 0
      · have hx1 : (x == 0) = true := by simpa using hx0
        have HZ' : Hid (∀ i, t ≤ i → i < q + 1 → ent (rows.getD i []) j = 0) := fun i h1 h2 => by
          by_cases e : i = q
          · rw [e, ← hxs.out, ← hx.out]; exact hx0
          · exact HZ.out i h1 (by omega)
        clear hx0
        go_wp2_with fail
        go_round
        case rel => exact ⟨q + 1, by go_num, by omega, by omega, HZ'⟩
        case measure => simp [intOf]; omega
      · have hx1 : (x == 0) = false := by simpa using hx0
        have hpq : Hid (pivAt rows j t = q) := pivAt_eq hq1 (by omega) HZ.out (fun _ => by rw [← hxs.out, ← hx.out]; exact hx0)
        have hG : Hid (gjTo m (j + 1) = (gjRows rows j t q, t + 1)) := by
          have := gjTo_step HG.out (by omega) (by rw [hpq.out]; omega)
          rw [hpq.out] at this
          exact this
        have hqe : ((q : Int) == (L : Int)) = false := by simp; omega
        have HX0 := Lib.hid hx0
        clear hx0 hpq HZ
        obtain ⟨rs, q1, q2, q3⟩ := HO.out
        obtain ⟨⟨rt, rtc⟩, t0⟩ : ∃ r, rs[t]? = some r := ⟨_, List.getElem?_eq_getElem (by rw [q3.len]; omega)⟩
        have t1 : wr.cell? ⟨g, t, none⟩ = some (.slice rt (rows.getD t []).length rtc) := by
          rw [q1.cellAt t (by omega), RV_get, t0, getD_get (by omega)]
          rfl
        obtain ⟨ts, hts⟩ : ∃ ts, Hid (ts = rows.getD t []) := ⟨_, rfl⟩
        rw [← hts.out] at t1
        have s1 := q1.stored q (.slice rt ts.length rtc)
        have SW : Hid (∀ (w1 : World) (ra : Option Addr) (rc : Nat), Ext (wr.setCell ⟨g, q, none⟩ (.slice rt ts.length rtc)) w1 → OI w1 wr.heap.size w1.heap.size ra rc (leadRow rows j q) → OM (w1.setCell ⟨g, t, none⟩ (.slice ra (leadRow rows j q).length rc)) w.heap.size w1.heap.size (some ⟨g, 0, none⟩) c1 (swapIn rows j t q)) := fun w1 ra rc h1 h2 =>
          OM.swap rs q1 (q2 g rfl) q3 (by omega) (by omega) t0 (by rw [← hts.out]; exact h1) (Nat.le_refl _) h2 he.size_le
        have ST : Hid (∀ w1 : World, Ext (wr.setCell ⟨g, q, none⟩ (.slice rt ts.length rtc)) w1 → (∃ u, w1.cell? ⟨g, t, none⟩ = some u) ∧ w1.frozen? ⟨g, t, none⟩ = false) := fun w1 h1 => by
          have s2 := ownsRow_of_block s1.1 fun k hk => h1.block_eq (ownsRow_block s1.1 k hk).2
          refine ⟨?_, s2.frozenAt t⟩
          rw [s2.cellAt t (by omega)]
          exact ⟨_, List.getElem?_eq_getElem (by have := s2.1; omega)⟩
        have V1 := K2.out.set_other (p := ⟨g, q, none⟩) (u := .slice rt ts.length rtc) (fun k hk (e : k = g) => k4 (by simp [blockOf] at hk; omega))
        have E1 := he.setCell (p := ⟨g, q, none⟩) g1 (.slice rt ts.length rtc)
        have HX : Hid (inR x 0 1018 = true) := by rw [hx.out]; exact inR_true.2 (ent_range HROW.out.1 _)
        have HI : Hid (inR (invI x) 0 1018 = true) := inR_true.2 (invI_range (inR_true.1 HX.out).1 (inR_true.1 HX.out).2)
        have HVX : Hid (validV xs = true) := validV_true.2 ⟨HROW.out.1, HROW.out.2.2⟩
        have HSC : Hid (scl xs (invI x) = leadRow rows j q) := by unfold leadRow; rw [← hxs.out, ← hx.out]; exact Lib.hid rfl
        clear s1 q1 q2 q3 t0
        go_wp2_with fail
        refine (specInverseField_ok _ _ HX.out).mono ?_
        rintro e w2 ⟨rfl, rfl⟩
        go_wp2_with fail
        refine (specScaleVector_ok _ _ xs _ _ V1.vals HVX.out HI.out).mono ?_
        rintro e w3 ⟨a3, c3, rfl, o3, e3⟩
        rw [HSC.out] at o3 ⊢
        obtain ⟨⟨u3, d3⟩, f3⟩ := ST.out w3 e3
        have M3 := SW.out w3 a3 c3 e3 ((OI.of o3).mono (by simp) (Nat.le_refl _))
        have E3 := (E1.trans e3).setCell (p := ⟨g, t, none⟩) g1 (.slice a3 (leadRow rows j q).length c3)
        have z3 := e3.size_le
        simp at z3
        obtain ⟨lr, hlr⟩ : ∃ lr, Hid (lr = leadRow rows j q) := ⟨_, rfl⟩
        have hll : lr.length ≤ 40 := by rw [hlr.out, leadRow_length, ← hxs.out]; exact HROW.out.2.2
        have hln : Hid (lr.length = n) := by rw [hlr.out, leadRow_length, ← hxs.out]; exact HROW.out.2.1
        rw [← hlr.out] at M3 E3 ⊢
        have HS : Hid (VR n (swapIn rows j t q)) := swapIn_VR hn HVR.out (by omega) (by omega)
        have HSL : Hid ((swapIn rows j t q).length = L) := by rw [swapIn_length]; exact HL
        have HST : Hid ((swapIn rows j t q).getD t [] = lr) := by rw [swapIn_getD (by omega) (by omega), if_pos rfl]; exact hlr.out.symm
        have hGR : Hid (gjRows rows j t q = clearTo (swapIn rows j t q) lr j t L) := by unfold gjRows; rw [← hlr.out, HL.out]; exact Lib.hid rfl
        generalize swapIn rows j t q = S at *
        clear SW ST V1 E1 HSC o3 e3 k1 k3 k4 k5 K2 t1
        go_wp2_with fail
        go_loopw [10] (fun i wv => ∃ q : Nat, i = .int .i64 q ∧ q ≤ L ∧ OM wv w.heap.size wv.heap.size (some ⟨g, 0, none⟩) c1 (clearTo S lr j t q) ∧ Ext w wv) (fun i _ => L - (intOf i).toNat)
        case atStart => exact ⟨0, rfl, Nat.zero_le _, by rw [clearTo_zero]; exact M3.mono (Nat.le_refl _) (by simp), E3⟩
        case round =>
          clear M3 E3
          obtain ⟨i, rfl, hi, M, E⟩ := hrel
          have hSl : L ≤ S.length := by rw [HSL.out]; exact Nat.le_refl _
          by_cases hil : i < L
          rotate_left
          · have hiL : Hid (gjRows rows j t q = clearTo S lr j t i) := by rw [hGR.out, show i = L by omega]; exact Lib.hid rfl
            rw [← hiL.out] at M
            have HW : Hid (VR n (gjRows rows j t q)) := by rw [hGR.out]; exact clearTo_VR hn HS.out hln.out
            have HLL : Hid ((gjRows rows j t q).length = L) := by rw [hGR.out, clearTo_length]; exact HSL
            go_wp2_with fail
            go_roundw
            case rel => exact ⟨j + 1, t + 1, gjRows rows j t q, by go_num, by go_num, by omega, hG, HLL, by omega, HW, M, E⟩
            case measure => simp [intOf]; omega
          by_cases hit : i = t
          · have hit' : ((i : Int) != (t : Int)) = false := by simp [hit]
            have hk : Hid (clearTo S lr j t (i + 1) = clearTo S lr j t i) := clearTo_keep (by omega) (.inl hit)
            rw [← hk.out] at M
            clear hit hk
            go_wp2_with fail
            go_roundw
            case rel => exact ⟨i + 1, by go_num, by omega, M, E⟩
            case measure => simp [intOf]; omega
          have hit' : ((i : Int) != (t : Int)) = true := by simp; omega
          obtain ⟨C, hC⟩ : ∃ C, Hid (C = clearTo S lr j t i) := ⟨_, rfl⟩
          have hCl : Hid (C.length = L) := by rw [hC.out, clearTo_length]; exact HSL
          have hCL : L ≤ C.length := by rw [hCl.out]; exact Nat.le_refl _
          have hCi : Hid (C.getD i [] = S.getD i []) := by rw [hC.out]; exact clearTo_at (by omega)
          have hCt : Hid (C.getD t [] = lr) := by rw [hC.out, clearTo_piv (by omega)]; exact HST
          have hrow2 := HS.out.getD (show i < S.length by omega)
          rw [← hC.out] at M
          obtain ⟨rb2, rc2, m1, m2, m3, m4, m5⟩ := M.num (i := i) (j := j) (by omega) (by rw [hCi.out]; omega)
          obtain ⟨ra4, rc4, n1, n2, n3, n4⟩ := M.row (i := t) (by omega)
          rw [hCi.out] at m1 m2 m5
          rw [hCt.out] at n1 n2
          obtain ⟨ys, hys⟩ : ∃ ys, Hid (ys = S.getD i []) := ⟨_, rfl⟩
          obtain ⟨y, hy⟩ : ∃ y, Hid (y = ent ys j) := ⟨_, rfl⟩
          rw [← hys.out] at m1 m2 m5 hrow2
          rw [← hy.out] at m5
          have i3 : (i : Int) < (L : Int) := by omega
          have i4 : (j : Int) < (ys.length : Int) := by omega
          have i5 : (t : Int) < (L : Int) := by omega
          have HR2 := Lib.hid hrow2
          have HM := Lib.hid M
          have N2 := Lib.hid n2
          have M2 := Lib.hid m2
          clear hrow2 M n2 m2 n4
          by_cases hy0 : y = 0
          · have hy1 : (y != 0) = false := by simpa using hy0
            have hk : Hid (clearTo S lr j t (i + 1) = C) := by
              rw [hC.out]
              exact clearTo_keep (by omega) (.inr (by rw [← hys.out]; exact el_zero HR2.out.1 (by rw [HR2.out.2.1, hln.out]) (by rw [← hy.out]; exact hy0)))
            clear hy0
            go_wp2_with fail
            go_roundw
            case rel => exact ⟨i + 1, by go_num, by omega, by rw [hk.out]; exact HM.out, E⟩
            case measure => simp [intOf]; omega
          · have hy1 : (y != 0) = true := by simpa using hy0
            obtain ⟨y2, y3⟩ : 0 ≤ y ∧ y ≤ 1018 := by rw [hy.out]; exact ent_range HR2.out.1 _
            have HEL : Hid (el ys lr j = addS ys lr (1019 - y)) := by rw [el_ne HR2.out.1 (by rw [← hy.out]; exact hy0), ← hy.out]; exact Lib.hid rfl
            have hk : Hid (clearTo S lr j t (i + 1) = C.set i (addS ys lr (1019 - y))) := by
              rw [clearTo_succ (by omega), if_neg hit, ← hys.out, HEL.out, hC.out]; exact Lib.hid rfl
            have C1 : Hid (∀ W : World, Ext wr W → Calls Try.prog 77 #[.slice (some ⟨rb2, 0, none⟩) ys.length rc2, .slice ra4 lr.length rc4, .int .i64 (1019 - y)] W (NewI W (addS ys lr (1019 - y)))) := fun W hW =>
              specAddScaled_ok _ _ _ _ _ _ _ W (M2.out.vals.ext hW) (N2.out.vals.ext hW) (validV_true.2 ⟨HR2.out.1, HR2.out.2.2⟩) (validV_true.2 ⟨by rw [hlr.out]; exact scl_AllEl _ _, hll⟩) (by rw [HR2.out.2.1, hln.out]) (inR_true.2 (by omega))
            have hw1 : IntKind.i64.wrap (1019 - y) = 1019 - y := by rw [IntKind.wrap_i64]; omega
            have D1 : Hid (∀ W : World, Ext wr.drew W → W.cell? ⟨g, i, none⟩ = some (.slice (some ⟨rb2, 0, none⟩) ys.length rc2)) := fun W hW => hW.cell m1
            have F1 : Hid (∀ W : World, Ext wr.drew W → W.frozen? ⟨g, i, none⟩ = false) := fun W hW => (hW.look.2 g i (World.block_lt_of_cell? _ _ m1)).trans m3
            clear hy0 hit
            go_wp2_with fail
            go_region_with ((go_at_call 77; (with_reducible refine (C1.out _ (Ext.refl wr).drew).mono ?_); rintro e w4 ⟨a4, c4, rfl, o4, e4⟩; have f4 := F1.out w4 e4; have d4 := D1.out w4 e4))
            all_goals
              have e4' : Ext wr w4 := (Ext.refl wr).drew.trans e4
              have P4 := (HM.out.ext e4').put (i := i) ((OI.of o4).mono (C := wr.heap.size) (Nat.le_refl _) (Nat.le_refl _)) E.size_le e4'.size_le (by omega)
              have E4 := (E.trans e4').setCell (p := ⟨g, i, none⟩) g1 (.slice a4 (addS ys lr (1019 - y)).length c4)
              rw [← hk.out] at P4
              clear C1 F1 D1 o4 e4 e4' HM E m1 m3 m5 n1 n3 f4 d4
              go_wp2_with fail
              go_roundw
              case rel => exact ⟨i + 1, by go_num, by omega, P4.mono (Nat.le_refl _) (by simp), E4⟩
              case measure => simp [intOf]; omega

end Go.Proofs.Ytninamlcffemoaa
