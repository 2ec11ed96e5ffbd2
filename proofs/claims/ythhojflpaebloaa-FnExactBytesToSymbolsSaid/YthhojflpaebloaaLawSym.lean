/- The law of BytesToSymbols. -/
import Derived.Test.YthhojflpaebloaaSym2
namespace Go.Proofs.Ythhojflpaebloaa
open Go.RowKit
set_option linter.unusedVariables false

theorem tot_le {xss : List (List Int)} {n : Nat} (h : ∀ xs ∈ xss, xs.length ≤ n) : tot xss ≤ xss.length * n := by
  unfold tot
  induction xss with
  | nil => simp
  | cons x r ih =>
    have h1 := h x (by simp)
    have h2 := ih (fun xs hx => h xs (by simp [hx]))
    rw [List.flatten_cons, List.length_append, List.length_cons, Nat.succ_mul]
    omega

theorem syms_rows {ds : List Int} {m : Int} {xs : List Int} (h : xs ∈ syms ds m) : inR m 1 16 = true ∧ ds.length ≤ 400 ∧ xs.length = m.toNat := by
  unfold syms at h
  split at h
  · rename_i hc
    rw [Bool.and_eq_true, decide_eq_true_eq] at hc
    refine ⟨hc.1, hc.2, ?_⟩
    unfold symTo at h
    obtain ⟨i, _, rfl⟩ := List.mem_map.1 h
    exact symRow_length _ _ _
  · simp at h

theorem symN_le {m len : Nat} (h : 1 ≤ m) : symN m len ≤ len := by
  unfold symN
  rw [Nat.div_le_iff_le_mul_add_pred h]
  have : len ≤ m * len := Nat.le_mul_of_pos_left _ h
  omega

theorem syms_len (ds : List Int) (m : Int) : (syms ds m).length ≤ 407 := by
  unfold syms
  split
  · rename_i hc
    rw [Bool.and_eq_true, decide_eq_true_eq] at hc
    have h1 := inR_true.1 hc.1
    rw [symTo_length]
    have h2 := symN_le (m := m.toNat) (len := (encBytes [] ds).length) (by omega)
    have h3 := encBytes_len ds
    omega
  · simp

theorem syms_bound (ds : List Int) (m : Int) : (syms ds m).length ≤ 1048576 ∧ tot (syms ds m) ≤ 1048576 := by
  have h1 := syms_len ds m
  have h2 := tot_le (xss := syms ds m) (n := 16) (fun xs hx => by have := syms_rows hx; have := inR_true.1 this.1; omega)
  omega

set_option maxHeartbeats 4000000 in
set_option maxRecDepth 100000 in
theorem lawBytesToSymbols (a0 : Option Addr) (c0 : Nat) (xs0 : List Int) (n1 : Int) (w : World) (r0_0 : Vals w a0 (Y xs0)) (m0_0 : xs0.length ≤ maxLen) (m0_1 : ∀ x ∈ xs0, 0 ≤ x ∧ x ≤ 255) :
    Calls Try.prog 6 #[.slice a0 xs0.length c0, .int .i64 n1] w (Gives w (.bool true)) := by
  replace m0_1 := Lib.hid m0_1
  by_cases hl0 : xs0.length ≤ 1048576
  rotate_left
  · have d0 : (1048576 : Int) < (xs0.length : Int) := by omega
    unfold maxLen at m0_0
    go_enter Try.func6, Try.ntmps6
    go_wp2_with fail
    go_ret
    exact ⟨rfl, Ext.refl w⟩
  have d0 : decide ((1048576 : Int) < (xs0.length : Int)) = false := by simp; omega
  have hres : (syms xs0 n1).length ≤ 1048576 ∧ tot (syms xs0 n1) ≤ 1048576 := (syms_bound xs0 n1)
  have hrr : Hid (∀ xs ∈ (syms xs0 n1), xs.length ≤ 1048576) := fun xs hx => by have := rows_le hx; omega
  obtain ⟨hres1, hres2⟩ := hres
  have hres : (syms xs0 n1).length ≤ 1048576 ∧ tot (syms xs0 n1) ≤ 1048576 := ⟨hres1, hres2⟩
  go_enter Try.func6, Try.ntmps6
  go_wp2_with fail
  refine (toByteS_ok _ _ _ _ (r0_0.ext (Ext.refl w)) hl0).mono ?_
  rintro e w1 ⟨t1a, t1c, rfl, t1o, e1⟩
  have E := (Ext.refl w).trans e1
  have z0 := e1.size_le
  replace t1o := OB.of t1o
  go_wp2_with fail
  refine (specBytesToSymbols_ok _ _ _ _ _ (t1o.vals) hl0 m0_1.out).mono ?_
  rintro e w2 ⟨u0a, u0c, rfl, u0o, e2⟩
  have z2 := e2.size_le
  replace t1o := t1o.ext e2
  replace E := E.trans e2
  clear e2
  go_wp2_with fail
  refine (toByteS_ok _ _ _ _ (r0_0.ext (E)) hl0).mono ?_
  rintro e w3 ⟨t3a, t3c, rfl, t3o, e3⟩
  have z3 := e3.size_le
  replace u0o := u0o.ext e3
  replace E := E.trans e3
  clear e3
  replace t3o := OB.of t3o
  go_wp2_with fail
  refine (implBytesToSymbols_ok _ _ _ _ _ (t3o.vals) hl0 m0_1.out).mono ?_
  rintro e w4 ⟨u1a, u1c, rfl, u1o, e4⟩
  have z4 := e4.size_le
  replace u0o := u0o.ext e4
  replace t3o := t3o.ext e4
  replace E := E.trans e4
  clear e4
  go_wp2_with fail
  refine (eqIntSS_ok _ _ _ _ _ _ _ (u1o.reads) (u0o.reads) (by omega) (fun xs hx => Nat.le_trans (hrr.out xs hx) (by omega))).mono ?_
  rintro e w5 ⟨rfl, e5⟩
  replace e5 := Dr.ext e5
  have z5 := e5.size_le
  replace u0o := u0o.ext e5
  replace t3o := t3o.ext e5
  replace u1o := u1o.ext e5
  replace E := E.trans e5
  clear e5
  go_wp2_with fail
  refine (toByteS_ok _ _ _ _ (r0_0.ext (E)) hl0).mono ?_
  rintro e w6 ⟨t6a, t6c, rfl, t6o, e6⟩
  have z6 := e6.size_le
  replace u0o := u0o.ext e6
  replace t3o := t3o.ext e6
  replace u1o := u1o.ext e6
  replace E := E.trans e6
  clear e6
  replace t6o := OB.of t6o
  go_wp2_with fail
  refine (eqByteS_ok _ _ _ _ _ _ _ (t3o.vals) (t6o.vals) (by omega)).mono ?_
  rintro e w7 ⟨rfl, e7⟩
  replace e7 := Dr.ext e7
  have z7 := e7.size_le
  replace u0o := u0o.ext e7
  replace t3o := t3o.ext e7
  replace u1o := u1o.ext e7
  replace E := E.trans e7
  clear e7
  go_wp2_with fail
  refine (markByteS_ok _ _ _ _ _ _ _ t3o (by omega) (by omega) (by omega)).mono ?_
  rintro e w8 ⟨rfl, t3o', s8⟩
  have z8 := s8.size
  replace u0o := u0o.span s8 (by omega)
  replace u1o := u1o.span s8 (by omega)
  replace E := Span.ext E s8 (by omega)
  clear s8 t3o
  have t3o := t3o'
  clear t3o'
  go_wp2_with fail
  refine (eqIntSS_ok _ _ _ _ _ _ _ (u1o.reads) (u0o.reads) (by omega) (fun xs hx => Nat.le_trans (hrr.out xs hx) (by omega))).mono ?_
  rintro e w9 ⟨rfl, e9⟩
  replace e9 := Dr.ext e9
  have z9 := e9.size_le
  replace u0o := u0o.ext e9
  replace u1o := u1o.ext e9
  replace E := E.trans e9
  clear e9
  go_wp2_with fail
  refine (markIntSS_ok _ _ _ _ _ _ _ u1o (by omega) (Nat.le_trans hres.2 (by omega)) (by omega) (by omega)).mono ?_
  rintro e w10 ⟨rfl, u1o', s10⟩
  have z10 := s10.size
  replace u0o := u0o.span s10 (by omega)
  replace E := Span.ext E s10 (by omega)
  clear s10 u1o
  have u1o := u1o'
  clear u1o'
  go_wp2_with fail
  refine (heldIntSS_ok _ _ _ _ _ (u1o.reads) (by omega) (Nat.le_trans hres.2 (by omega)) (by omega) (by omega)).mono ?_
  rintro e w11 ⟨rfl, rfl⟩
  go_wp2_with fail
  refine (toByteS_ok _ _ _ _ (r0_0.ext (E)) hl0).mono ?_
  rintro e w11 ⟨t11a, t11c, rfl, t11o, e11⟩
  have z11 := e11.size_le
  replace u0o := u0o.ext e11
  replace u1o := u1o.ext e11
  replace E := E.trans e11
  clear e11
  replace t11o := OB.of t11o
  go_wp2_with fail
  refine (implBytesToSymbols_ok _ _ _ _ _ (t11o.vals) hl0 m0_1.out).mono ?_
  rintro e w12 ⟨u2a, u2c, rfl, u2o, e12⟩
  have z12 := e12.size_le
  replace u0o := u0o.ext e12
  replace u1o := u1o.ext e12
  replace t11o := t11o.ext e12
  replace E := E.trans e12
  clear e12
  go_wp2_with fail
  refine (eqIntSS_ok _ _ _ _ _ _ _ (u2o.reads) (u0o.reads) (by omega) (fun xs hx => Nat.le_trans (hrr.out xs hx) (by omega))).mono ?_
  rintro e w13 ⟨rfl, e13⟩
  replace e13 := Dr.ext e13
  have z13 := e13.size_le
  replace u0o := u0o.ext e13
  replace u1o := u1o.ext e13
  replace u2o := u2o.ext e13
  replace E := E.trans e13
  clear e13
  go_wp2_with fail
  refine (heldIntSS_ok _ _ _ _ _ (u1o.reads) (by omega) (Nat.le_trans hres.2 (by omega)) (by omega) (by omega)).mono ?_
  rintro e w14 ⟨rfl, rfl⟩
  go_wp2_with fail
  go_ret
  exact ⟨rfl, E⟩

end Go.Proofs.Ythhojflpaebloaa
