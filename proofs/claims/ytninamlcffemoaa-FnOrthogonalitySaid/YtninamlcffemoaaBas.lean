/- Contracts of IsValidBasis, takes, ReduceVector, ContainsVector, Dimension (program and reference). -/
import Derived.Test.YtninamlcffemoaaRowR
import Derived.Test.YtninamlcffemoaaGen
namespace Go.Proofs.Ytninamlcffemoaa
open Go.RowKit
set_option linter.unusedVariables false
set_option maxRecDepth 20000

theorem validB_all {n : Int} {m : List (List Int)} (h : ∀ xs ∈ m, (xs.length : Int) = n) : validB n m = (inR n 0 40 && isRedB m) := by
  unfold validB
  have : decide (m.length = 0 ∨ (cols m : Int) = n) = true := by
    rw [decide_eq_true_eq]
    cases m with
    | nil => exact .inl rfl
    | cons x r => exact .inr (h x (by simp))
  rw [this, Bool.and_true]
theorem validB_row {n : Int} {m : List (List Int)} {xs : List Int} (h : xs ∈ m) (hn : (xs.length : Int) ≠ n) : validB n m = false := by
  cases hv : validB n m
  · rfl
  · have := validB_true.1 hv
    have h1 := (this.2.2.1.1 xs h).2
    omega
theorem validB_range {n : Int} {m : List (List Int)} (h : inR n 0 40 = false) : validB n m = false := by unfold validB; rw [h]; rfl
theorem validB_red {n : Int} {m : List (List Int)} (h : isRedB m = false) : validB n m = false := by unfold validB; rw [h]; simp
theorem validB_nil {n : Int} {m : List (List Int)} (h0 : inR n 0 40 = true) (h : isRedB m = true) (hl : m.length = 0) : validB n m = true := by unfold validB; rw [h0, h]; simp [hl]
theorem validB_cols {n : Int} {m : List (List Int)} (h0 : inR n 0 40 = true) (h : isRedB m = true) (hl : 0 < m.length) : validB n m = decide ((cols m : Int) = n) := by
  unfold validB
  rw [h0, h]
  simp only [Bool.true_and]
  exact decide_eq_decide.2 ⟨fun k => k.resolve_left (by omega), .inr⟩

set_option maxHeartbeats 4000000 in
set_option maxRecDepth 100000 in
theorem implIsValidBasis_ok (n : Int) (a : Option Addr) (c : Nat) (m : List (List Int)) (w : World) (h : MatR w a m) (hl : m.length ≤ 1048576) (hr : ∀ xs ∈ m, xs.length ≤ 1048576) :
    Calls Try.prog 112 #[bsV n a c m] w (Gives w (.bool (validB n m))) := by
  have E : Ext w (w.alloc (.cells #[.int .i64 n, .slice a m.length c] 46)) := (Ext.refl w).alloc _
  have c0 : (w.alloc (.cells #[.int .i64 n, .slice a m.length c] 46)).cell? ⟨w.heap.size, 0, none⟩ = some (.int .i64 n) := by simp
  have c1 : (w.alloc (.cells #[.int .i64 n, .slice a m.length c] 46)).cell? ⟨w.heap.size, 1, none⟩ = some (.slice a m.length c) := by simp
  have h1 := h.ext E
  have Q : Hid (∀ k, Calls Try.prog 36 #[.slice a m.length c] ((w.alloc (.cells #[.int .i64 n, .slice a m.length c] 46)).drewN k) (Quiet ((w.alloc (.cells #[.int .i64 n, .slice a m.length c] 46)).drewN k) (.bool (isRedB m)))) := fun k => implIsReduced_quiet a c m _ (h1.ext ((Ext.refl _).drewN k)) hl hr
  have HE := Lib.hid E
  have QR : Hid (∀ W : World, Calls Try.prog 119 #[.int .i64 n, .int .i64 0, .int .i64 40] W fun e w' => e = .returned (.bool (inR n 0 40)) ∧ W = w') := fun W => implInRange_ok _ _ _ _
  clear hr h E
  cases q1 : inR n 0 40
  · have HF := Lib.hid (validB_range (m := m) q1)
    rw [q1] at QR
    go_enter Try.func112, Try.ntmps112
    go_wp2_with fail
    generalize w.alloc (.cells #[.int .i64 n, .slice a m.length c] 46) = W at *
    go_quiet (first | (go_at_call 119; exact Calls.same_quiet (QR.out _)))
    go_wp2_with fail
    go_ret
    rw [HF.out]
    exact ⟨rfl, HE.out.drewN _⟩
  rw [q1] at QR
  cases q2 : isRedB m
  · have HF := Lib.hid (validB_red (n := n) q2)
    rw [q2] at Q
    go_enter Try.func112, Try.ntmps112
    go_wp2_with fail
    generalize w.alloc (.cells #[.int .i64 n, .slice a m.length c] 46) = W at *
    go_quiet (first | (go_at_call 119; exact Calls.same_quiet (QR.out _)) | (go_at_call 36; exact Calls.quiet (Q.out _)))
    go_wp2_with fail
    go_ret
    rw [HF.out]
    exact ⟨rfl, HE.out.drewN _⟩
  rw [q2] at Q
  by_cases q3 : m.length = 0
  · have HF := Lib.hid (validB_nil q1 q2 q3)
    have q3' : ((m.length : Int) == 0) = true := by simp [q3]
    clear q3
    go_enter Try.func112, Try.ntmps112
    go_wp2_with fail
    generalize w.alloc (.cells #[.int .i64 n, .slice a m.length c] 46) = W at *
    go_quiet (first | (go_at_call 119; exact Calls.same_quiet (QR.out _)) | (go_at_call 36; exact Calls.quiet (Q.out _)))
    go_wp2_with fail
    go_ret
    rw [HF.out]
    exact ⟨rfl, HE.out.drewN _⟩
  have hpos : 0 < m.length := by omega
  have hpos' : (0 : Int) < (m.length : Int) := by omega
  have q3' : ((m.length : Int) == 0) = false := not_eq_of (by omega)
  obtain ⟨b0, o0, _, _, _, ra0, rc0, rfl, hb0, hx0, _, _, c2⟩ := h1.at0 hpos
  have HF := Lib.hid (validB_cols q1 q2 hpos)
  clear q3
  cases q4 : decide ((cols m : Int) = n)
  all_goals
    rw [q4] at HF
    have q5 : ((cols m : Int) == n) = decide ((cols m : Int) = n) := rfl
    rw [q4] at q5
    clear q4
    go_enter Try.func112, Try.ntmps112
    go_wp2_with fail
    generalize w.alloc (.cells #[.int .i64 n, .slice (some ⟨b0, o0, none⟩) m.length c] 46) = W at *
    go_quiet (first | (go_at_call 119; exact Calls.same_quiet (QR.out _)) | (go_at_call 36; exact Calls.quiet (Q.out _)))
    go_wp2_with fail
    go_ret
    rw [HF.out]
    exact ⟨rfl, HE.out.drewN _⟩

set_option maxHeartbeats 4000000 in
theorem specIsValidBasis_ok (n : Int) (a : Option Addr) (c : Nat) (m : List (List Int)) (w : World) (h : MatR w a m) (hl : m.length ≤ 1048576) (hr : ∀ xs ∈ m, xs.length ≤ 1048576) :
    Calls Try.prog 149 #[bsV n a c m] w (Gives w (.bool (validB n m))) := by
  have E : Ext w (w.alloc (.cells #[.int .i64 n, .slice a m.length c] 46)) := (Ext.refl w).alloc _
  have c0 : (w.alloc (.cells #[.int .i64 n, .slice a m.length c] 46)).cell? ⟨w.heap.size, 0, none⟩ = some (.int .i64 n) := by simp
  have c1 : (w.alloc (.cells #[.int .i64 n, .slice a m.length c] 46)).cell? ⟨w.heap.size, 1, none⟩ = some (.slice a m.length c) := by simp
  have h1 := h.ext E
  have Q : Hid (∀ W, Ext (w.alloc (.cells #[.int .i64 n, .slice a m.length c] 46)) W → Calls Try.prog 161 #[.slice a m.length c] W (Gives W (.bool (isRedB m)))) := fun W hW => specIsReduced_ok a c m W (h1.ext hW) hl hr
  have HE := Lib.hid E
  clear hr h E
  go_enter Try.func149, Try.ntmps149
  go_wp2_with fail
  generalize w.alloc (.cells #[.int .i64 n, .slice a m.length c] 46) = W at *
  go_loopw [3] (fun i wr => ∃ k : Nat, k ≤ m.length ∧ i = .int .i64 k ∧ Hid (∀ xs ∈ m.take k, (xs.length : Int) = n) ∧ Dr W wr) (fun i _ => m.length - (intOf i).toNat)
  case atStart => exact ⟨0, Nat.zero_le _, rfl, fun xs hx => by simp at hx, Dr.refl _⟩
  case round =>
    obtain ⟨k, hk, rfl, HK, hd⟩ := hrel
    have d0 := hd.ext.cell c0
    have d1 := hd.ext.cell c1
    by_cases hlt : k < m.length
    · obtain ⟨b1, o1, ra, rc, xs, rfl, hb, hx, hc1, hrow⟩ := (h1.ext hd.ext).at_ hlt
      have i1 : (0 : Int) ≤ (k : Int) := by omega
      have i2 : (k : Int) < (m.length : Int) := by omega
      by_cases hn : (xs.length : Int) = n
      · have hn' : ((xs.length : Int) != n) = false := by simp [hn]
        have HK2 : Hid (∀ ys ∈ m.take (k + 1), (ys.length : Int) = n) := fun ys hy => by
          rw [List.take_add_one, hx.out] at hy
          rcases List.mem_append.1 hy with hy | hy
          · exact HK.out ys hy
          · simp at hy; subst hy; exact hn
        clear hn
        go_wp2_with fail
        go_quiet (fail)
        go_wp2_with fail
        exact ⟨⟨k + 1, by omega, by go_num, HK2, hd.drewN _⟩, by simp [intOf]; omega⟩
      · have hn' : ((xs.length : Int) != n) = true := by simpa using hn
        have HF := Lib.hid (validB_row (List.mem_of_getElem? hx.out) hn)
        clear hn
        go_wp2_with fail
        go_quiet (fail)
        go_wp2_with fail
        go_ret
        rw [HF.out]
        exact ⟨rfl, HE.out.trans (hd.drewN _).ext⟩
    · have hall := HK.out
      rw [List.take_of_length_le (by omega)] at hall
      have HF := Lib.hid (validB_all hall)
      clear hall
      cases q1 : inR n 0 40
      · rw [q1] at HF
        go_wp2_with (go_at_call 120; refine (specInRange_ok _ _ _ _).mono ?_; rintro e w' ⟨rfl, rfl⟩)
        go_ret
        rw [HF.out]
        exact ⟨rfl, HE.out.trans hd.ext⟩
      · rw [q1, Bool.true_and] at HF
        go_wp2_with (go_at_call 120; refine (specInRange_ok _ _ _ _).mono ?_; rintro e w' ⟨rfl, rfl⟩)
        (with_reducible refine (Q.out _ hd.ext).mono ?_)
        rintro e w4 ⟨rfl, e4⟩
        go_wp2_with fail
        go_ret
        rw [HF.out]
        exact ⟨rfl, (HE.out.trans hd.ext).trans e4⟩

/-- A basis and a vector fit. -/
def fitsB (n : Int) (m : List (List Int)) (v : List Int) : Bool := validB n m && (validV v && decide ((v.length : Int) = n))
theorem fitsB_parts {n : Int} {m : List (List Int)} {v : List Int} (h : fitsB n m v = true) : RM n.toNat m ∧ AllEl v ∧ v.length = n.toNat ∧ n.toNat ≤ 40 ∧ m.length ≤ 40 ∧ (v.length : Int) = n ∧ validB n m = true := by
  unfold fitsB at h
  simp only [Bool.and_eq_true, decide_eq_true_eq] at h
  have h1 := validB_true.1 h.1
  exact ⟨h1.2.2.1, (validV_true.1 h.2.1).1, by omega, by omega, h1.2.2.2, h.2.2, h.1⟩

set_option maxHeartbeats 4000000 in
theorem takes_ok (n : Int) (a : Option Addr) (c : Nat) (m : List (List Int)) (b : Option Addr) (d : Nat) (v : List Int) (w : World) (h : MatR w a m) (h' : Vals w b (I v)) (hl : m.length ≤ 1048576) (hr : ∀ xs ∈ m, xs.length ≤ 1048576) (hl' : v.length ≤ 1048576) :
    Calls Try.prog 148 #[bsV n a c m, .slice b v.length d] w (Gives w (.bool (fitsB n m v))) := by
  have E : Ext w (w.alloc (.cells #[.int .i64 n, .slice a m.length c] 46)) := (Ext.refl w).alloc _
  have Q := Lib.hid (implIsValidBasis_ok n a c m _ (h.ext E) hl hr)
  have HE := Lib.hid E
  clear hr h E
  cases q1 : validB n m
  · have HF : Hid (fitsB n m v = false) := by unfold fitsB; rw [q1]; exact Lib.hid rfl
    rw [q1] at Q
    go_enter Try.func148, Try.ntmps148
    go_wp2_with fail
    (with_reducible refine Q.out.mono ?_)
    rintro e w1 ⟨rfl, e1⟩
    go_wp2_with fail
    go_ret
    rw [HF.out]
    exact ⟨rfl, HE.out.trans e1⟩
  cases q2 : validV v
  · have HF : Hid (fitsB n m v = false) := by unfold fitsB; rw [q2]; simp [Hid]
    rw [q1] at Q
    go_enter Try.func148, Try.ntmps148
    go_wp2_with fail
    (with_reducible refine Q.out.mono ?_)
    rintro e w1 ⟨rfl, e1⟩
    have hv := h'.ext (HE.out.trans e1)
    go_wp2_with (go_at_call 100; (with_reducible refine (implIsValidVector_ok _ _ _ _ hv (by omega)).mono ?_); rintro e w' ⟨rfl, rfl⟩; rw [q2])
    go_ret
    rw [HF.out]
    exact ⟨rfl, HE.out.trans e1⟩
  have HF : Hid (fitsB n m v = decide ((v.length : Int) = n)) := by unfold fitsB; rw [q1, q2]; simp [Hid]
  rw [q1] at Q
  cases q4 : decide ((v.length : Int) = n)
  all_goals
    rw [q4] at HF
    have q5 : ((v.length : Int) == n) = decide ((v.length : Int) = n) := rfl
    rw [q4] at q5
    clear q4
    go_enter Try.func148, Try.ntmps148
    go_wp2_with fail
    (with_reducible refine Q.out.mono ?_)
    rintro e w1 ⟨rfl, e1⟩
    have hv := h'.ext (HE.out.trans e1)
    have c0 := e1.cell (p := ⟨w.heap.size, 0, none⟩) (v := .int .i64 n) (by simp)
    go_wp2_with (go_at_call 100; (with_reducible refine (implIsValidVector_ok _ _ _ _ hv (by omega)).mono ?_); rintro e w' ⟨rfl, rfl⟩; rw [q2])
    go_ret
    rw [HF.out]
    exact ⟨rfl, HE.out.trans e1⟩

set_option maxHeartbeats 4000000 in
theorem specFits_ok (n : Int) (a : Option Addr) (c : Nat) (m : List (List Int)) (b : Option Addr) (d : Nat) (v : List Int) (w : World) (h : MatR w a m) (h' : Vals w b (I v)) (hl : m.length ≤ 1048576) (hr : ∀ xs ∈ m, xs.length ≤ 1048576) (hl' : v.length ≤ 1048576) :
    Calls Try.prog 117 #[bsV n a c m, .slice b v.length d] w (Gives w (.bool (fitsB n m v))) := by
  have E : Ext w (w.alloc (.cells #[.int .i64 n, .slice a m.length c] 46)) := (Ext.refl w).alloc _
  have Q := Lib.hid (specIsValidBasis_ok n a c m _ (h.ext E) hl hr)
  have HE := Lib.hid E
  clear hr h E
  cases q1 : validB n m
  · have HF : Hid (fitsB n m v = false) := by unfold fitsB; rw [q1]; exact Lib.hid rfl
    rw [q1] at Q
    go_enter Try.func117, Try.ntmps117
    go_wp2_with fail
    (with_reducible refine Q.out.mono ?_)
    rintro e w1 ⟨rfl, e1⟩
    go_wp2_with fail
    go_ret
    rw [HF.out]
    exact ⟨rfl, HE.out.trans e1⟩
  cases q2 : validV v
  · have HF : Hid (fitsB n m v = false) := by unfold fitsB; rw [q2]; simp [Hid]
    rw [q1] at Q
    go_enter Try.func117, Try.ntmps117
    go_wp2_with fail
    (with_reducible refine Q.out.mono ?_)
    rintro e w1 ⟨rfl, e1⟩
    have hv := h'.ext (HE.out.trans e1)
    go_wp2_with (go_at_call 69; (with_reducible refine (specIsValidVector_ok _ _ _ _ hv (by omega)).mono ?_); rintro e w' ⟨rfl, rfl⟩; rw [q2])
    go_ret
    rw [HF.out]
    exact ⟨rfl, HE.out.trans e1⟩
  have HF : Hid (fitsB n m v = decide ((v.length : Int) = n)) := by unfold fitsB; rw [q1, q2]; simp [Hid]
  rw [q1] at Q
  cases q4 : decide ((v.length : Int) = n)
  all_goals
    rw [q4] at HF
    have q5 : ((v.length : Int) == n) = decide ((v.length : Int) = n) := rfl
    rw [q4] at q5
    clear q4
    go_enter Try.func117, Try.ntmps117
    go_wp2_with fail
    (with_reducible refine Q.out.mono ?_)
    rintro e w1 ⟨rfl, e1⟩
    have hv := h'.ext (HE.out.trans e1)
    have c0 := e1.cell (p := ⟨w.heap.size, 0, none⟩) (v := .int .i64 n) (by simp)
    go_wp2_with (go_at_call 69; (with_reducible refine (specIsValidVector_ok _ _ _ _ hv (by omega)).mono ?_); rintro e w' ⟨rfl, rfl⟩; rw [q2])
    go_ret
    rw [HF.out]
    exact ⟨rfl, HE.out.trans e1⟩

def dimB (n : Int) (m : List (List Int)) : Int := if validB n m then (m.length : Int) else 0

set_option maxHeartbeats 4000000 in
theorem implDimension_ok (n : Int) (a : Option Addr) (c : Nat) (m : List (List Int)) (w : World) (h : MatR w a m) (hl : m.length ≤ 1048576) (hr : ∀ xs ∈ m, xs.length ≤ 1048576) :
    Calls Try.prog 49 #[bsV n a c m] w (Gives w (.int .i64 (dimB n m))) := by
  have E : Ext w (w.alloc (.cells #[.int .i64 n, .slice a m.length c] 46)) := (Ext.refl w).alloc _
  have Q := Lib.hid (implIsValidBasis_ok n a c m _ (h.ext E) hl hr)
  have HE := Lib.hid E
  clear hr h E
  cases q1 : validB n m
  · have HD : Hid (dimB n m = 0) := by unfold dimB; rw [q1]; exact Lib.hid rfl
    rw [q1] at Q
    go_enter Try.func49, Try.ntmps49
    go_wp2_with fail
    (with_reducible refine Q.out.mono ?_)
    rintro e w1 ⟨rfl, e1⟩
    go_wp2_with fail
    go_ret
    exact ⟨ret_int HD.out.symm, HE.out.trans e1⟩
  · have HD : Hid (dimB n m = (m.length : Int)) := by unfold dimB; rw [q1]; exact Lib.hid rfl
    rw [q1] at Q
    go_enter Try.func49, Try.ntmps49
    go_wp2_with fail
    (with_reducible refine Q.out.mono ?_)
    rintro e w1 ⟨rfl, e1⟩
    have c1 := e1.cell (p := ⟨w.heap.size, 1, none⟩) (v := .slice a m.length c) (by simp)
    go_wp2_with fail
    go_ret
    exact ⟨ret_int HD.out.symm, HE.out.trans e1⟩

end Go.Proofs.Ytninamlcffemoaa
