/- SpanOf: the law. -/
import Derived.Test.YtjcgnpnnhejfhaaSpanT
import Derived.Test.YtjcgnpnnhejfhaaLawTot
namespace Go.Proofs.Ytjcgnpnnhejfhaa
open Go.RowKit
set_option linter.unusedVariables false
set_option maxRecDepth 20000

theorem spanR_bound (vs : List (List Int)) (n : Int) : (spanR vs n).length ≤ 40 ∧ ∀ xs ∈ spanR vs n, xs.length ≤ 40 := by
  unfold spanR
  split
  · rename_i h
    obtain ⟨h0, h1⟩ := inR_true.1 h
    have h2 := spanTo_RM (vs := vs) (n := n.toNat) (by omega) vs.length
    exact ⟨by omega, fun xs hx => by have := (h2.1.1 xs hx).2; omega⟩
  · simp
theorem spanR_tot (vs : List (List Int)) (n : Int) : (spanR vs n).length ≤ 1048576 ∧ tot (spanR vs n) ≤ 1048576 := by
  obtain ⟨h1, h2⟩ := spanR_bound vs n
  have := tot_le h2
  omega

set_option maxHeartbeats 4000000 in
set_option maxRecDepth 100000 in
theorem lawSpanOf (a0 : Option Addr) (c0 : Nat) (xss0 : List (List Int)) (n1 : Int) (w : World) (r0_0 : MatR w a0 xss0) (m0_0 : xss0.length ≤ maxLen) (m0_1 : ∀ xs ∈ xss0, xs.length ≤ maxLen) :
    Calls Try.prog 5 #[.slice a0 xss0.length c0, .int .i64 n1] w (Gives w (.bool true)) := by
  replace m0_1 := Lib.hid m0_1
  by_cases hs0 : szM xss0 1048576 < 0
  · skip
    go_enter Try.func5, Try.ntmps5
    go_wp2_with fail
    refine (szIntSS_ok _ _ _ _ _ (r0_0.ext (Ext.refl w)) m0_0 m0_1.out (by omega) (by omega)).mono ?_
    rintro e w1 ⟨rfl, rfl⟩
    go_wp2_with fail
    go_ret
    exact ⟨rfl, Ext.refl w⟩
  obtain ⟨hle0, heq0⟩ := szM_le (Int.not_lt.1 hs0)
  have hl0 : xss0.length ≤ 1048576 := by omega
  have hr0 : Hid (∀ xs ∈ xss0, xs.length ≤ 1048576) := fun xs hx => by have := rows_le hx; omega
  have ht0 : tot xss0 ≤ 1099511627776 := by omega
  have hu0 : tot xss0 ≤ 1048576 := by omega
  have hf0 : szM xss0 1048576 ≤ 1048576 := by omega
  have hg0 : 0 ≤ szM xss0 1048576 := by omega
  replace heq0 := Lib.hid heq0
  have hres : (spanR xss0 n1).length ≤ 1048576 ∧ tot (spanR xss0 n1) ≤ 1048576 := (spanR_tot xss0 n1)
  have hrr : Hid (∀ xs ∈ (spanR xss0 n1), xs.length ≤ 1048576) := fun xs hx => by have := rows_le hx; omega
  obtain ⟨hres1, hres2⟩ := hres
  go_enter Try.func5, Try.ntmps5
  go_wp2_with fail
  refine (szIntSS_ok _ _ _ _ _ (r0_0.ext (Ext.refl w)) m0_0 m0_1.out (by omega) (by omega)).mono ?_
  rintro e w1 ⟨rfl, rfl⟩
  go_wp2_with fail
  refine (toIntSS_ok _ _ _ _ (r0_0.ext (Ext.refl w)) hl0 hr0.out).mono ?_
  rintro e w1 ⟨t1a, t1c, rfl, t1o, e1⟩
  have E := (Ext.refl w).trans e1
  have z0 := e1.size_le
  go_wp2_with fail
  refine (specSpanOf_ok _ _ _ _ _ (t1o.reads) hl0 hr0.out).mono ?_
  rintro e w2 ⟨u0a, u0c, rfl, u0o, e2⟩
  have z2 := e2.size_le
  replace t1o := t1o.ext e2
  replace E := E.trans e2
  clear e2
  go_wp2_with fail
  refine (toIntSS_ok _ _ _ _ (r0_0.ext (E.alloc _)) hl0 hr0.out).mono ?_
  rintro e w3 ⟨t3a, t3c, rfl, t3o, e3⟩
  have z3 := e3.size_le
  simp at z3
  replace u0o := u0o.ext (((Ext.refl w2).alloc _).trans e3)
  have w0_0 := e3.cell (p := ⟨w2.heap.size, 0, none⟩) (v := .int .i64 (basisW n1)) (by simp)
  have w0_1 := e3.cell (p := ⟨w2.heap.size, 1, none⟩) (v := .slice u0a (spanR xss0 n1).length u0c) (by simp)
  replace E := (E.alloc _).trans e3
  clear e3
  replace t3o := t3o.mono (C := w2.heap.size + 1) (C2 := w3.heap.size) (by simp) (Nat.le_refl _)
  go_wp2_with fail
  refine (implSpanOf_ok _ _ _ _ _ (t3o.reads) hl0 hr0.out).mono ?_
  rintro e w4 ⟨u1a, u1c, rfl, u1o, e4⟩
  have z4 := e4.size_le
  replace w0_0 := e4.cell w0_0
  replace w0_1 := e4.cell w0_1
  replace u0o := u0o.ext e4
  replace t3o := t3o.ext e4
  replace E := E.trans e4
  clear e4
  have qself := eqB_self (basisW n1) (spanR xss0 n1)
  have y_w0_0 := ((Ext.refl w4).alloc (.cells #[.int .i64 (basisW n1), .slice u1a (spanR xss0 n1).length u1c] 30)).cell w0_0
  have y_w0_1 := ((Ext.refl w4).alloc (.cells #[.int .i64 (basisW n1), .slice u1a (spanR xss0 n1).length u1c] 30)).cell w0_1
  go_wp2_with fail
  refine (eqBasis_ok _ _ _ _ _ _ _ _ _ ((u1o.reads).ext ((Ext.refl _).alloc _)) ((u0o.reads).ext ((Ext.refl _).alloc _)) hres1 hrr.out).mono ?_
  clear y_w0_0 y_w0_1
  rintro e w5 ⟨rfl, e5⟩
  have z5 := e5.size_le
  simp at z5
  replace w0_0 := (((Ext.refl w4).alloc _).trans e5).cell w0_0
  replace w0_1 := (((Ext.refl w4).alloc _).trans e5).cell w0_1
  replace u0o := u0o.ext (((Ext.refl w4).alloc _).trans e5)
  replace t3o := t3o.ext (((Ext.refl w4).alloc _).trans e5)
  replace u1o := u1o.ext (((Ext.refl w4).alloc _).trans e5)
  have g0_0 := e5.cell (p := ⟨w4.heap.size, 0, none⟩) (v := .int .i64 (basisW n1)) (by simp)
  have g0_1 := e5.cell (p := ⟨w4.heap.size, 1, none⟩) (v := .slice u1a (spanR xss0 n1).length u1c) (by simp)
  replace E := (E.alloc _).trans e5
  clear e5
  go_wp2_with fail
  refine (toIntSS_ok _ _ _ _ (r0_0.ext (E)) hl0 hr0.out).mono ?_
  rintro e w6 ⟨t6a, t6c, rfl, t6o, e6⟩
  have z6 := e6.size_le
  replace w0_0 := e6.cell w0_0
  replace w0_1 := e6.cell w0_1
  replace g0_0 := e6.cell g0_0
  replace g0_1 := e6.cell g0_1
  replace u0o := u0o.ext e6
  replace t3o := t3o.ext e6
  replace u1o := u1o.ext e6
  replace E := E.trans e6
  clear e6
  go_wp2_with fail
  refine (eqIntSS_ok _ _ _ _ _ _ _ (t3o.reads) (t6o.reads) (by omega) (fun xs hx => Nat.le_trans (hr0.out xs hx) (by omega))).mono ?_
  rintro e w7 ⟨rfl, e7⟩
  replace e7 := Dr.ext e7
  have z7 := e7.size_le
  replace w0_0 := e7.cell w0_0
  replace w0_1 := e7.cell w0_1
  replace g0_0 := e7.cell g0_0
  replace g0_1 := e7.cell g0_1
  replace u0o := u0o.ext e7
  replace t3o := t3o.ext e7
  replace u1o := u1o.ext e7
  replace E := E.trans e7
  clear e7
  go_wp2_with fail
  refine (markIntSS_ok _ _ _ _ _ _ _ t3o (by omega) ht0 (by omega) (by omega)).mono ?_
  rintro e w8 ⟨rfl, t3o', s8⟩
  have z8 := s8.size
  replace w0_0 := s8.cell w0_0 (by show w2.heap.size < _ ∨ _ ≤ w2.heap.size; omega)
  replace w0_1 := s8.cell w0_1 (by show w2.heap.size < _ ∨ _ ≤ w2.heap.size; omega)
  replace g0_0 := s8.cell g0_0 (by show w4.heap.size < _ ∨ _ ≤ w4.heap.size; omega)
  replace g0_1 := s8.cell g0_1 (by show w4.heap.size < _ ∨ _ ≤ w4.heap.size; omega)
  replace u0o := u0o.span s8 (by omega)
  replace u1o := u1o.span s8 (by omega)
  replace E := Span.ext E s8 (by omega)
  clear s8 t3o
  have t3o := t3o'
  clear t3o'
  go_wp2_with fail
  refine (eqBasis_ok _ _ _ _ _ _ _ _ _ (u1o.reads) (u0o.reads) hres1 hrr.out).mono ?_
  rintro e w9 ⟨rfl, e9⟩
  have z9 := e9.size_le
  replace w0_0 := e9.cell w0_0
  replace w0_1 := e9.cell w0_1
  replace g0_0 := e9.cell g0_0
  replace g0_1 := e9.cell g0_1
  replace u0o := u0o.ext e9
  replace u1o := u1o.ext e9
  replace E := E.trans e9
  clear e9
  go_wp2_with fail
  refine (markBasis_ok _ _ _ _ _ _ _ _ u1o (by omega) (by omega) (Nat.le_trans hres2 (by omega)) (by omega) (by omega)).mono ?_
  rintro e w10 ⟨rfl, u1o', s10⟩
  have z10 := s10.size
  replace w0_0 := s10.cell w0_0 (by show w2.heap.size < _ ∨ _ ≤ w2.heap.size; omega)
  replace w0_1 := s10.cell w0_1 (by show w2.heap.size < _ ∨ _ ≤ w2.heap.size; omega)
  replace g0_0 := s10.cell g0_0 (by show w4.heap.size < _ ∨ _ ≤ w4.heap.size; omega)
  replace g0_1 := s10.cell g0_1 (by show w4.heap.size < _ ∨ _ ≤ w4.heap.size; omega)
  replace u0o := u0o.span s10 (by omega)
  replace E := Span.ext E s10 (by omega)
  clear s10 u1o
  have u1o := u1o'
  clear u1o'
  go_wp2_with fail
  refine (heldBasis_ok _ _ _ _ _ _ (u1o.reads) (by omega) (Nat.le_trans hres2 (by omega)) (by omega) (by omega)).mono ?_
  rintro e w11 ⟨rfl, e11⟩
  have z11 := e11.size_le
  replace w0_0 := e11.cell w0_0
  replace w0_1 := e11.cell w0_1
  replace g0_0 := e11.cell g0_0
  replace g0_1 := e11.cell g0_1
  replace u0o := u0o.ext e11
  replace u1o := u1o.ext e11
  replace E := E.trans e11
  clear e11
  go_wp2_with fail
  refine (toIntSS_ok _ _ _ _ (r0_0.ext (E)) hl0 hr0.out).mono ?_
  rintro e w12 ⟨t12a, t12c, rfl, t12o, e12⟩
  have z12 := e12.size_le
  replace w0_0 := e12.cell w0_0
  replace w0_1 := e12.cell w0_1
  replace g0_0 := e12.cell g0_0
  replace g0_1 := e12.cell g0_1
  replace u0o := u0o.ext e12
  replace u1o := u1o.ext e12
  replace E := E.trans e12
  clear e12
  go_wp2_with fail
  refine (implSpanOf_ok _ _ _ _ _ (t12o.reads) hl0 hr0.out).mono ?_
  rintro e w13 ⟨u2a, u2c, rfl, u2o, e13⟩
  have z13 := e13.size_le
  replace w0_0 := e13.cell w0_0
  replace w0_1 := e13.cell w0_1
  replace g0_0 := e13.cell g0_0
  replace g0_1 := e13.cell g0_1
  replace u0o := u0o.ext e13
  replace u1o := u1o.ext e13
  replace t12o := t12o.ext e13
  replace E := E.trans e13
  clear e13
  have y_w0_0 := ((Ext.refl w13).alloc (.cells #[.int .i64 (basisW n1), .slice u2a (spanR xss0 n1).length u2c] 30)).cell w0_0
  have y_w0_1 := ((Ext.refl w13).alloc (.cells #[.int .i64 (basisW n1), .slice u2a (spanR xss0 n1).length u2c] 30)).cell w0_1
  have y_g0_0 := ((Ext.refl w13).alloc (.cells #[.int .i64 (basisW n1), .slice u2a (spanR xss0 n1).length u2c] 30)).cell g0_0
  have y_g0_1 := ((Ext.refl w13).alloc (.cells #[.int .i64 (basisW n1), .slice u2a (spanR xss0 n1).length u2c] 30)).cell g0_1
  go_wp2_with fail
  refine (eqBasis_ok _ _ _ _ _ _ _ _ _ ((u2o.reads).ext ((Ext.refl _).alloc _)) ((u0o.reads).ext ((Ext.refl _).alloc _)) hres1 hrr.out).mono ?_
  clear y_w0_0 y_w0_1 y_g0_0 y_g0_1
  rintro e w14 ⟨rfl, e14⟩
  have z14 := e14.size_le
  simp at z14
  replace w0_0 := (((Ext.refl w13).alloc _).trans e14).cell w0_0
  replace w0_1 := (((Ext.refl w13).alloc _).trans e14).cell w0_1
  replace g0_0 := (((Ext.refl w13).alloc _).trans e14).cell g0_0
  replace g0_1 := (((Ext.refl w13).alloc _).trans e14).cell g0_1
  replace u0o := u0o.ext (((Ext.refl w13).alloc _).trans e14)
  replace u1o := u1o.ext (((Ext.refl w13).alloc _).trans e14)
  replace u2o := u2o.ext (((Ext.refl w13).alloc _).trans e14)
  have h0_0 := e14.cell (p := ⟨w13.heap.size, 0, none⟩) (v := .int .i64 (basisW n1)) (by simp)
  have h0_1 := e14.cell (p := ⟨w13.heap.size, 1, none⟩) (v := .slice u2a (spanR xss0 n1).length u2c) (by simp)
  replace E := (E.alloc _).trans e14
  clear e14
  go_wp2_with fail
  refine (heldBasis_ok _ _ _ _ _ _ (u1o.reads) (by omega) (Nat.le_trans hres2 (by omega)) (by omega) (by omega)).mono ?_
  rintro e w15 ⟨rfl, e15⟩
  have z15 := e15.size_le
  replace w0_0 := e15.cell w0_0
  replace w0_1 := e15.cell w0_1
  replace g0_0 := e15.cell g0_0
  replace g0_1 := e15.cell g0_1
  replace h0_0 := e15.cell h0_0
  replace h0_1 := e15.cell h0_1
  replace u0o := u0o.ext e15
  replace u1o := u1o.ext e15
  replace u2o := u2o.ext e15
  replace E := E.trans e15
  clear e15
  go_wp2_with fail
  go_ret
  exact ⟨rfl, E⟩

end Go.Proofs.Ytjcgnpnnhejfhaa
