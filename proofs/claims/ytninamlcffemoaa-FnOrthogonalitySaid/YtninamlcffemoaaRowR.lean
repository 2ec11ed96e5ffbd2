/- Contracts of RowReduce, Rank, IsReduced (program and reference). -/
import Derived.Test.YtninamlcffemoaaInsB
import Derived.Test.YtninamlcffemoaaRed
namespace Go.Proofs.Ytninamlcffemoaa
open Go.RowKit
set_option linter.unusedVariables false
set_option maxRecDepth 20000

def rowRed (m : List (List Int)) : List (List Int) := if validM m then gj m (cols m) else []
theorem rowRed_yes {m : List (List Int)} (h : validM m = true) : rowRed m = gj m (cols m) := by unfold rowRed; rw [if_pos h]
theorem rowRed_no {m : List (List Int)} (h : validM m = false) : rowRed m = [] := by unfold rowRed; rw [h]; rfl
theorem rowRed_bound (m : List (List Int)) : (rowRed m).length ≤ 40 ∧ ∀ xs ∈ rowRed m, xs.length ≤ 40 := by
  unfold rowRed
  split
  · rename_i h
    obtain ⟨h1, h2⟩ := validM_true.1 h
    obtain ⟨g1, g2, _⟩ := gj_red (k := cols m) (cols_le h1) h1
    exact ⟨by omega, fun xs hx => (validV_true.1 (g1.1 xs hx).1).2⟩
  · simp

set_option maxHeartbeats 1000000 in
theorem specRowReduce_ok (a : Option Addr) (c : Nat) (m : List (List Int)) (w : World) (h : MatR w a m) (hl : m.length ≤ 1048576) (hr : ∀ xs ∈ m, xs.length ≤ 1048576) :
    Calls Try.prog 95 #[.slice a m.length c] w (NewM w (rowRed m)) := by
  have Q := Lib.hid (specIsValidMatrix_ok a c m w h (by omega) (fun xs hx => Nat.le_trans (hr xs hx) (by omega)))
  clear hr
  cases hv : validM m
  · have HN := Lib.hid (rowRed_no hv)
    rw [hv] at Q
    clear hv
    go_enter Try.func95, Try.ntmps95
    go_wp2_with fail
    (with_reducible refine Q.out.mono ?_)
    rintro e w1 ⟨rfl, q, rfl⟩
    have o0 := OM.new0 (w.drewN q)
    have e0 := ((Ext.refl w).drewN q).alloc (.cells #[] 36)
    go_wp2_with fail
    go_ret
    rw [HN.out]
    exact ⟨_, _, rfl, o0, e0⟩
  · have HN := Lib.hid (rowRed_yes hv)
    obtain ⟨h1, h2⟩ := validM_true.1 hv
    have HV := Lib.hid h1
    have hc := cols_le h1
    rw [hv] at Q
    clear hv h1
    go_enter Try.func95, Try.ntmps95
    go_wp2_with fail
    (with_reducible refine Q.out.mono ?_)
    rintro e w1 ⟨rfl, q, rfl⟩
    have e0 := (Ext.refl w).drewN q
    go_wp2_with fail
    (with_reducible refine (specColumnsOf_ok _ _ _ _ (h.ext e0)).mono ?_)
    rintro e w1 ⟨rfl, rfl⟩
    go_wp2_with fail
    (with_reducible refine (specReduce_ok _ _ m (cols m) (cols m) _ (h.ext e0) HV.out hc (Nat.le_refl _) hl).mono ?_)
    rintro e w2 ⟨a2, c2, rfl, o2, e2⟩
    go_wp2_with fail
    go_ret
    rw [HN.out]
    exact ⟨a2, c2, rfl, o2, e0.trans e2⟩

set_option maxHeartbeats 1000000 in
theorem implRowReduce_ok (a : Option Addr) (c : Nat) (m : List (List Int)) (w : World) (h : MatR w a m) (hl : m.length ≤ 1048576) (hr : ∀ xs ∈ m, xs.length ≤ 1048576) :
    Calls Try.prog 34 #[.slice a m.length c] w (NewM w (rowRed m)) := by
  have Q := Lib.hid (implIsValidMatrix_ok a c m w h (by omega) (fun xs hx => Nat.le_trans (hr xs hx) (by omega)))
  clear hr
  cases hv : validM m
  · have HN := Lib.hid (rowRed_no hv)
    rw [hv] at Q
    clear hv
    go_enter Try.func34, Try.ntmps34
    go_wp2_with fail
    (with_reducible refine Q.out.mono ?_)
    rintro e w1 ⟨rfl, q, rfl⟩
    have e0 := (Ext.refl w).drewN q
    go_wp2_with fail
    go_ret
    rw [HN.out]
    exact ⟨none, 0, rfl, OM.nil _ _ _, e0⟩
  · have HN := Lib.hid (rowRed_yes hv)
    obtain ⟨h1, h2⟩ := validM_true.1 hv
    have hc := cols_le h1
    have HI := Lib.hid (insTo_ok hc h1)
    have HG := Lib.hid (ins_gj hc h1)
    have HV := Lib.hid h1
    rw [hv] at Q
    clear hv h1
    go_enter Try.func34, Try.ntmps34
    go_wp2_with fail
    (with_reducible refine Q.out.mono ?_)
    rintro e w1 ⟨rfl, q, rfl⟩
    have e0 := (Ext.refl w).drewN q
    have hz0 : (w.drewN q).heap.size = w.heap.size := rfl
    generalize w.drewN q = w1 at *
    go_wp2_with fail
    (with_reducible refine (implColumnsOf_ok _ _ _ _ (h.ext e0)).mono ?_)
    rintro e w2 ⟨rfl, rfl⟩
    go_wp2_with fail
    have B0 : BasisAt w w.heap.size (cols m : Nat) (insTo m 0) (w1.alloc (.cells #[.int .i64 (cols m : Nat), .slice none 0 0] 46)) := by
      rw [← hz0]
      exact ⟨none, 0, e0.alloc _, by rw [hz0]; exact Nat.le_refl _, by simp, by simp [insTo], by simp, OM.nil _ _ _⟩
    clear hz0 e0
    go_loopw [14] (fun i wr => ∃ k : Nat, k ≤ m.length ∧ i = .int .i64 k ∧ BasisAt w w.heap.size (cols m : Nat) (insTo m k) wr) (fun i _ => m.length - (intOf i).toNat)
    case atStart => exact ⟨0, Nat.zero_le _, rfl, B0⟩
    case round =>
      clear B0
      obtain ⟨k, hk, rfl, hB⟩ := hrel
      have he : Ext w wr := by obtain ⟨_, _, h, _⟩ := hB; exact h
      obtain ⟨g1, _, g3⟩ := HI.out k hk
      have HR := Lib.hid g1
      clear g1
      by_cases hlt : k < m.length
      · obtain ⟨b1, o1, ra, rc, xs, rfl, hb, hx, hc1, hrow⟩ := (h.ext he).at_ hlt
        have hxs : Hid (m.getD k [] = xs) := getD_some hx.out
        have hrk := HV.out.getD hlt
        rw [hxs.out] at hrk
        have HS : Hid (insTo m (k + 1) = insM (insTo m k) xs) := by rw [insTo, hxs.out]; exact Lib.hid rfl
        have CC := Lib.hid (insert_ok w w.heap.size (cols m : Nat) (insTo m k) ra rc xs (cols m) wr hB hrow HR.out hrk.1 hrk.2.1 hc (by omega))
        rw [← HS.out] at CC
        clear hrk hB
        go_wp2_with fail
        (with_reducible refine CC.out.mono ?_)
        rintro e w3 ⟨rfl, B3⟩
        clear CC
        go_wp2_with fail
        go_roundw
        case rel => exact ⟨k + 1, by omega, by go_num, B3⟩
        case measure => simp [intOf]; omega
      · obtain rfl : k = m.length := by omega
        obtain ⟨a2, c2, q1, q2, q3, q4, q5, q6⟩ := hB
        rw [HG.out, ← HN.out] at q4 q6
        go_wp2_with fail
        go_ret
        exact ⟨a2, c2, rfl, q6.mono (by omega) (Nat.le_refl _), q1⟩

set_option maxHeartbeats 1000000 in
theorem implRank_ok (a : Option Addr) (c : Nat) (m : List (List Int)) (w : World) (h : MatR w a m) (hl : m.length ≤ 1048576) (hr : ∀ xs ∈ m, xs.length ≤ 1048576) :
    Calls Try.prog 37 #[.slice a m.length c] w (Gives w (.int .i64 ((rowRed m).length : Nat))) := by
  have Q := Lib.hid (implRowReduce_ok a c m w h hl hr)
  clear hr
  go_enter Try.func37, Try.ntmps37
  go_wp2_with fail
  (with_reducible refine Q.out.mono ?_)
  rintro e w2 ⟨a2, c2, rfl, o2, e2⟩
  go_wp2_with fail
  go_ret
  exact ⟨rfl, e2⟩

set_option maxHeartbeats 1000000 in
theorem specRank_ok (a : Option Addr) (c : Nat) (m : List (List Int)) (w : World) (h : MatR w a m) (hl : m.length ≤ 1048576) (hr : ∀ xs ∈ m, xs.length ≤ 1048576) :
    Calls Try.prog 27 #[.slice a m.length c] w (Gives w (.int .i64 ((rowRed m).length : Nat))) := by
  have Q := Lib.hid (specRowReduce_ok a c m w h hl hr)
  clear hr
  go_enter Try.func27, Try.ntmps27
  go_wp2_with fail
  (with_reducible refine Q.out.mono ?_)
  rintro e w2 ⟨a2, c2, rfl, o2, e2⟩
  go_wp2_with fail
  go_ret
  exact ⟨rfl, e2⟩

set_option maxHeartbeats 1000000 in
theorem specIsReduced_ok (a : Option Addr) (c : Nat) (m : List (List Int)) (w : World) (h : MatR w a m) (hl : m.length ≤ 1048576) (hr : ∀ xs ∈ m, xs.length ≤ 1048576) :
    Calls Try.prog 161 #[.slice a m.length c] w (Gives w (.bool (isRedB m))) := by
  have Q := Lib.hid (specIsValidMatrix_ok a c m w h (by omega) (fun xs hx => Nat.le_trans (hr xs hx) (by omega)))
  have HR := Lib.hid hr
  clear hr
  cases hv : validM m
  · have HN := Lib.hid (isRedB_no hv)
    rw [hv] at Q
    clear hv
    go_enter Try.func161, Try.ntmps161
    go_wp2_with fail
    (with_reducible refine Q.out.mono ?_)
    rintro e w1 ⟨rfl, q, rfl⟩
    go_wp2_with fail
    go_ret
    rw [HN.out]
    exact ⟨rfl, (Ext.refl w).drewN q⟩
  · have HY : Hid (isRedB m = decide (rowRed m = m)) := by unfold isRedB; rw [rowRed_yes hv, hv]; exact Lib.hid rfl
    have hb := rowRed_bound m
    have HB := Lib.hid hb.2
    have hb1 := hb.1
    rw [hv] at Q
    clear hv hb
    go_enter Try.func161, Try.ntmps161
    go_wp2_with fail
    (with_reducible refine Q.out.mono ?_)
    rintro e w1 ⟨rfl, q, rfl⟩
    have e0 := (Ext.refl w).drewN q
    go_wp2_with fail
    (with_reducible refine (specRowReduce_ok _ _ m _ (h.ext e0) hl HR.out).mono ?_)
    rintro e w2 ⟨a2, c2, rfl, o2, e2⟩
    have e02 := e0.trans e2
    go_wp2_with fail
    (with_reducible refine (specEqualMatrices_ok _ _ _ _ (rowRed m) m _ o2.reads (h.ext e02) (by omega) (fun xs hx => Nat.le_trans (HB.out xs hx) (by omega))).mono ?_)
    rintro e w3 ⟨rfl, e3⟩
    go_wp2_with fail
    go_ret
    rw [HY.out]
    exact ⟨rfl, e02.trans e3.ext⟩

/-- The pivot that the rows before k reached. -/
def lastP (m : List (List Int)) (k : Nat) : Int := if k = 0 then -1 else (ld (m.getD (k - 1) []) : Nat)
theorem lastP_ge (m : List (List Int)) (k : Nat) : -1 ≤ lastP m k := by unfold lastP; split <;> omega
theorem lastP_lt {m : List (List Int)} {k : Nat} {p : Nat} (h : lastP m k < (p : Int)) : 0 < k → ld (m.getD (k - 1) []) < p := by
  intro h0
  unfold lastP at h
  rw [if_neg (by omega)] at h
  omega
theorem lastP_no {m : List (List Int)} {k : Nat} {p : Nat} (h : (p : Int) ≤ lastP m k) : ¬ (0 < k → ld (m.getD (k - 1) []) < p) := by
  intro hc
  unfold lastP at h
  split at h
  · omega
  · have := hc (by omega); omega
theorem lastP_succ (m : List (List Int)) (k : Nat) : lastP m (k + 1) = (ld (m.getD k []) : Nat) := by unfold lastP; rw [if_neg (by omega), Nat.add_sub_cancel]

set_option maxHeartbeats 4000000 in
set_option maxRecDepth 100000 in
theorem implIsReduced_quiet (a : Option Addr) (c : Nat) (m : List (List Int)) (w : World) (h : MatR w a m) (hl : m.length ≤ 1048576) (hr : ∀ xs ∈ m, xs.length ≤ 1048576) :
    Calls Try.prog 36 #[.slice a m.length c] w (Quiet w (.bool (isRedB m))) := by
  have Q := Lib.hid (implIsValidMatrix_ok a c m w h (by omega) (fun xs hx => Nat.le_trans (hr xs hx) (by omega)))
  have HR := Lib.hid hr
  clear hr
  cases hv : validM m
  · have HN := Lib.hid (isRedB_no hv)
    rw [hv] at Q
    clear hv
    go_enter Try.func36, Try.ntmps36
    go_wp2_with fail
    (with_reducible refine Q.out.mono ?_)
    rintro e w1 ⟨rfl, q, rfl⟩
    go_wp2_with fail
    go_ret
    rw [HN.out]
    exact ⟨rfl, q, rfl⟩
  have HVM := Lib.hid hv
  have HBAD : Hid (∀ k, k < m.length → ¬ rowOk m k → isRedB m = false) := fun k hk hb => isRedB_bad HVM.out hk hb
  have HGOOD : Hid ((∀ i, i < m.length → rowOk m i) → isRedB m = true) := fun hg => (isRedB_rowOk HVM.out).2 hg
  have HV := Lib.hid (validM_true.1 hv).1
  rw [hv] at Q
  clear hv
  go_enter Try.func36, Try.ntmps36
  go_wp2_with fail
  (with_reducible refine Q.out.mono ?_)
  rintro e w1 ⟨rfl, q, rfl⟩
  have e0 : Dr w (w.drewN q) := ⟨q, rfl⟩
  have h1 := h.ext e0.ext
  clear h Q
  generalize w.drewN q = w1 at *
  go_wp2_with fail
  go_loop [3, 14] (fun l i => ∃ k : Nat, k ≤ m.length ∧ i = .int .i64 k ∧ l = .int .i64 (lastP m k) ∧ Hid (∀ i, i < k → rowOk m i)) (fun _ i => m.length - (intOf i).toNat)
  case atStart => exact ⟨0, Nat.zero_le _, rfl, rfl, fun i hi => by omega⟩
  case round =>
    obtain ⟨k, hk, rfl, rfl, HK⟩ := hrel
    have hlp := lastP_ge m k
    by_cases hlt : k < m.length
    rotate_left
    · have HG := Lib.hid (HGOOD.out (fun i hi => HK.out i (by omega)))
      go_wp2_with fail
      go_ret
      rw [HG.out]
      exact ⟨rfl, e0⟩
    obtain ⟨b1, o1, ra, rc, xs, rfl, hb, hx, hc1, hrow⟩ := h1.at_ hlt
    have hxs : Hid (m.getD k [] = xs) := getD_some hx.out
    have hrk := HV.out.getD hlt
    rw [hxs.out] at hrk
    have hxl : xs.length ≤ 40 := hrk.2.2
    have HRK := Lib.hid hrk
    clear hrk
    have HB := Lib.hid (HBAD.out k hlt)
    by_cases hp : ld xs < xs.length
    rotate_left
    · have HL : Hid (leadI xs = -1) := by rw [leadI_ld, if_neg hp]; exact Lib.hid rfl
      have HF : Hid (isRedB m = false) := HB.out (fun hh => hp (by have := hh.1; rwa [hxs.out] at this))
      go_wp2_with (go_at_call 39; (with_reducible refine (implLeadingIndex_ok _ _ _ _ hrow (by omega)).mono ?_); rintro e w' ⟨rfl, rfl⟩; rw [HL.out])
      go_ret
      rw [HF.out]
      exact ⟨rfl, e0⟩
    obtain ⟨p, hpe⟩ : ∃ p, Hid (p = ld xs) := ⟨_, rfl⟩
    rw [← hpe.out] at hp
    have HL : Hid (leadI xs = (p : Int)) := leadI_nat hpe.out.symm hp
    have i1 : (p : Int) < (xs.length : Int) := by omega
    obtain ⟨b2, o2, x, rfl, _, hxp, hcx⟩ := hrow.atI hp
    obtain ⟨l, hle⟩ : ∃ l, Hid (l = lastP m k) := ⟨_, rfl⟩
    rw [← hle.out] at hlp ⊢
    by_cases hpl : (p : Int) ≤ l
    · have HF : Hid (isRedB m = false) := HB.out (fun hh => lastP_no (by rw [← hle.out]; exact hpl) (by have := hh.2.1; rwa [hxs.out, ← hpe.out] at this))
      go_wp2_with (go_at_call 39; (with_reducible refine (implLeadingIndex_ok _ _ _ _ hrow (by omega)).mono ?_); rintro e w' ⟨rfl, rfl⟩; rw [HL.out])
      go_ret
      rw [HF.out]
      exact ⟨rfl, e0⟩
    have hxe : Hid (ent xs p = x) := ent_some hxp.out
    by_cases hx1 : x = 1
    rotate_left
    · have hx2 : (x != 1) = true := by simpa using hx1
      have HF : Hid (isRedB m = false) := HB.out (fun hh => hx1 (by have := hh.2.2.1; rw [hxs.out, ← hpe.out, hxe.out] at this; exact this))
      clear hx1
      go_wp2_with (go_at_call 39; (with_reducible refine (implLeadingIndex_ok _ _ _ _ hrow (by omega)).mono ?_); rintro e w' ⟨rfl, rfl⟩; rw [HL.out])
      go_ret
      rw [HF.out]
      exact ⟨rfl, e0⟩
    subst hx1
    have HO : Hid ((∀ j, j < m.length → j ≠ k → ent (m.getD j []) p = 0) → rowOk m k) := fun hz => ⟨by rw [hxs.out, ← hpe.out]; exact hp, by rw [hxs.out, ← hpe.out]; exact lastP_lt (by rw [← hle.out]; omega), by rw [hxs.out, ← hpe.out]; exact hxe.out, by rw [hxs.out, ← hpe.out]; exact hz⟩
    have HNO : Hid (∀ j, j < m.length → j ≠ k → ent (m.getD j []) p ≠ 0 → isRedB m = false) := fun j h1 h2 h3 => HB.out (fun hh => h3 (by have := hh.2.2.2 j h1 h2; rwa [hxs.out, ← hpe.out] at this))
    go_wp2_with (go_at_call 39; (with_reducible refine (implLeadingIndex_ok _ _ _ _ hrow (by omega)).mono ?_); rintro e w' ⟨rfl, rfl⟩; rw [HL.out])
    go_loop [33] (fun i => ∃ j : Nat, j ≤ m.length ∧ i = .int .i64 j ∧ Hid (∀ i, i < j → i ≠ k → ent (m.getD i []) p = 0)) (fun i => m.length - (intOf i).toNat)
    case atStart => exact ⟨0, Nat.zero_le _, rfl, fun i hi => by omega⟩
    case round =>
      obtain ⟨j, hj, rfl, HJ⟩ := hrel
      by_cases hjl : j < m.length
      rotate_left
      · have HK2 : Hid (∀ i, i < k + 1 → rowOk m i) := fun i hi => by
          by_cases e : i = k
          · rw [e]; exact HO.out (fun j' h1 h2 => HJ.out j' (by omega) h2)
          · exact HK.out i (by omega)
        have HLP : Hid (lastP m (k + 1) = (p : Int)) := by rw [lastP_succ, hxs.out, ← hpe.out]; exact Lib.hid rfl
        go_wp2_with fail
        go_round
        case rel => exact ⟨k + 1, by omega, by go_num, by rw [HLP.out], HK2⟩
        case measure => simp [intOf]; omega
      obtain ⟨b3, o3, ra3, rc3, ys, hab, _, hy, hc3, hrow3⟩ := h1.at_ hjl
      injection hab with hab
      obtain ⟨rfl, rfl⟩ : b1 = b3 ∧ o1 = o3 := by simpa using hab
      have hys : Hid (m.getD j [] = ys) := getD_some hy.out
      have hrj := HV.out.getD hjl
      rw [hys.out] at hrj
      have hpy : p < ys.length := by rw [hrj.2.1, ← HRK.out.2.1]; exact hp
      have i3 : (p : Int) < (ys.length : Int) := by omega
      obtain ⟨b4, o4, y, rfl, _, hyp, hcy⟩ := hrow3.atI hpy
      have hye : Hid (ent ys p = y) := ent_some hyp.out
      clear hrj hab
      by_cases hjk : j = k
      · have hjk' : ((j : Int) != (k : Int)) = false := by simp [hjk]
        have HJ2 : Hid (∀ i, i < j + 1 → i ≠ k → ent (m.getD i []) p = 0) := fun i h1 h2 => HJ.out i (by omega) h2
        clear hjk
        go_wp2_with fail
        go_round
        case rel => exact ⟨j + 1, by omega, by go_num, HJ2⟩
        case measure => simp [intOf]; omega
      have hjk' : ((j : Int) != (k : Int)) = true := by simp; omega
      by_cases hy0 : y = 0
      · have hy1 : (y != 0) = false := by simpa using hy0
        have HJ2 : Hid (∀ i, i < j + 1 → i ≠ k → ent (m.getD i []) p = 0) := fun i h1 h2 => by
          by_cases e : i = j
          · rw [e, hys.out, hye.out]; exact hy0
          · exact HJ.out i (by omega) h2
        clear hjk hy0
        go_wp2_with fail
        go_round
        case rel => exact ⟨j + 1, by omega, by go_num, HJ2⟩
        case measure => simp [intOf]; omega
      · have hy1 : (y != 0) = true := by simpa using hy0
        have HF : Hid (isRedB m = false) := HNO.out j hjl hjk (by rw [hys.out, hye.out]; exact hy0)
        clear hjk hy0
        go_wp2_with fail
        go_ret
        rw [HF.out]
        exact ⟨rfl, e0⟩

theorem implIsReduced_ok (a : Option Addr) (c : Nat) (m : List (List Int)) (w : World) (h : MatR w a m) (hl : m.length ≤ 1048576) (hr : ∀ xs ∈ m, xs.length ≤ 1048576) :
    Calls Try.prog 36 #[.slice a m.length c] w (Gives w (.bool (isRedB m))) := (implIsReduced_quiet a c m w h hl hr).mono fun _ _ q => q.gives

end Go.Proofs.Ytninamlcffemoaa
