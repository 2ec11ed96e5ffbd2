/- The laws of EncodeDense, EncodeSparse, EncodeCoefficients, EncodedSize. -/
import Derived.Test.YthhojflpaebloaaEnc3
namespace Go.Proofs.Ythhojflpaebloaa
open Go.RowKit
set_option linter.unusedVariables false

set_option maxHeartbeats 4000000 in
set_option maxRecDepth 100000 in
theorem lawEncodeDense (a0 : Option Addr) (c0 : Nat) (xs0 : List Int) (w : World) (r0_0 : Vals w a0 (I xs0)) (m0_0 : xs0.length ≤ maxLen) :
    Calls Try.prog 7 #[.slice a0 xs0.length c0] w (Gives w (.bool true)) := by
  by_cases hl0 : xs0.length ≤ 1048576
  rotate_left
  · have d0 : (1048576 : Int) < (xs0.length : Int) := by omega
    unfold maxLen at m0_0
    go_enter Try.func7, Try.ntmps7
    go_wp2_with fail
    go_ret
    exact ⟨rfl, Ext.refl w⟩
  have d0 : decide ((1048576 : Int) < (xs0.length : Int)) = false := by simp; omega
  have hres : (encDense xs0).length ≤ 1048576 := Nat.le_trans (encDense_len xs0) (by omega)
  go_enter Try.func7, Try.ntmps7
  go_wp2_with fail
  refine (toIntS_ok _ _ _ _ (r0_0.ext (Ext.refl w)) hl0).mono ?_
  rintro e w1 ⟨t1a, t1c, rfl, t1o, e1⟩
  have E := (Ext.refl w).trans e1
  have z0 := e1.size_le
  replace t1o := OI.of t1o
  go_wp2_with fail
  refine (specEncodeDense_ok _ _ _ _ (t1o.vals) hl0).mono ?_
  rintro e w2 ⟨u0a, u0c, rfl, u0o, e2⟩
  have z2 := e2.size_le
  replace t1o := t1o.ext e2
  replace E := E.trans e2
  clear e2
  replace u0o := OB.of u0o
  go_wp2_with fail
  refine (toIntS_ok _ _ _ _ (r0_0.ext (E)) hl0).mono ?_
  rintro e w3 ⟨t3a, t3c, rfl, t3o, e3⟩
  have z3 := e3.size_le
  replace u0o := u0o.ext e3
  replace E := E.trans e3
  clear e3
  replace t3o := OI.of t3o
  go_wp2_with fail
  refine (implEncodeDense_ok _ _ _ _ (t3o.vals) hl0).mono ?_
  rintro e w4 ⟨u1a, u1c, rfl, u1o, e4⟩
  have z4 := e4.size_le
  replace u0o := u0o.ext e4
  replace t3o := t3o.ext e4
  replace E := E.trans e4
  clear e4
  replace u1o := OB.of u1o
  go_wp2_with fail
  refine (eqByteS_ok _ _ _ _ _ _ _ (u1o.vals) (u0o.vals) (by omega)).mono ?_
  rintro e w5 ⟨rfl, e5⟩
  replace e5 := Dr.ext e5
  have z5 := e5.size_le
  replace u0o := u0o.ext e5
  replace t3o := t3o.ext e5
  replace u1o := u1o.ext e5
  replace E := E.trans e5
  clear e5
  go_wp2_with fail
  refine (toIntS_ok _ _ _ _ (r0_0.ext (E)) hl0).mono ?_
  rintro e w6 ⟨t6a, t6c, rfl, t6o, e6⟩
  have z6 := e6.size_le
  replace u0o := u0o.ext e6
  replace t3o := t3o.ext e6
  replace u1o := u1o.ext e6
  replace E := E.trans e6
  clear e6
  replace t6o := OI.of t6o
  go_wp2_with fail
  refine (eqIntS_ok _ _ _ _ _ _ _ (t3o.vals) (t6o.vals) (by omega)).mono ?_
  rintro e w7 ⟨rfl, e7⟩
  replace e7 := Dr.ext e7
  have z7 := e7.size_le
  replace u0o := u0o.ext e7
  replace t3o := t3o.ext e7
  replace u1o := u1o.ext e7
  replace E := E.trans e7
  clear e7
  go_wp2_with fail
  refine (markIntS_ok _ _ _ _ _ _ _ t3o (by omega) (by omega) (by omega)).mono ?_
  rintro e w8 ⟨rfl, t3o', s8⟩
  have z8 := s8.size
  replace u0o := u0o.span s8 (by omega)
  replace u1o := u1o.span s8 (by omega)
  replace E := Span.ext E s8 (by omega)
  clear s8 t3o
  have t3o := t3o'
  clear t3o'
  go_wp2_with fail
  refine (eqByteS_ok _ _ _ _ _ _ _ (u1o.vals) (u0o.vals) (by omega)).mono ?_
  rintro e w9 ⟨rfl, e9⟩
  replace e9 := Dr.ext e9
  have z9 := e9.size_le
  replace u0o := u0o.ext e9
  replace u1o := u1o.ext e9
  replace E := E.trans e9
  clear e9
  go_wp2_with fail
  refine (markByteS_ok _ _ _ _ _ _ _ u1o (by omega) (by omega) (by omega)).mono ?_
  rintro e w10 ⟨rfl, u1o', s10⟩
  have z10 := s10.size
  replace u0o := u0o.span s10 (by omega)
  replace E := Span.ext E s10 (by omega)
  clear s10 u1o
  have u1o := u1o'
  clear u1o'
  go_wp2_with fail
  refine (heldByteS_ok _ _ _ _ _ (u1o.vals) (by omega) (by omega) (by omega)).mono ?_
  rintro e w11 ⟨rfl, rfl⟩
  go_wp2_with fail
  refine (toIntS_ok _ _ _ _ (r0_0.ext (E)) hl0).mono ?_
  rintro e w11 ⟨t11a, t11c, rfl, t11o, e11⟩
  have z11 := e11.size_le
  replace u0o := u0o.ext e11
  replace u1o := u1o.ext e11
  replace E := E.trans e11
  clear e11
  replace t11o := OI.of t11o
  go_wp2_with fail
  refine (implEncodeDense_ok _ _ _ _ (t11o.vals) hl0).mono ?_
  rintro e w12 ⟨u2a, u2c, rfl, u2o, e12⟩
  have z12 := e12.size_le
  replace u0o := u0o.ext e12
  replace u1o := u1o.ext e12
  replace t11o := t11o.ext e12
  replace E := E.trans e12
  clear e12
  replace u2o := OB.of u2o
  go_wp2_with fail
  refine (eqByteS_ok _ _ _ _ _ _ _ (u2o.vals) (u0o.vals) (by omega)).mono ?_
  rintro e w13 ⟨rfl, e13⟩
  replace e13 := Dr.ext e13
  have z13 := e13.size_le
  replace u0o := u0o.ext e13
  replace u1o := u1o.ext e13
  replace u2o := u2o.ext e13
  replace E := E.trans e13
  clear e13
  go_wp2_with fail
  refine (heldByteS_ok _ _ _ _ _ (u1o.vals) (by omega) (by omega) (by omega)).mono ?_
  rintro e w14 ⟨rfl, rfl⟩
  go_wp2_with fail
  go_ret
  exact ⟨rfl, E⟩

set_option maxHeartbeats 4000000 in
set_option maxRecDepth 100000 in
theorem lawEncodeSparse (a0 : Option Addr) (c0 : Nat) (xs0 : List Int) (w : World) (r0_0 : Vals w a0 (I xs0)) (m0_0 : xs0.length ≤ maxLen) :
    Calls Try.prog 8 #[.slice a0 xs0.length c0] w (Gives w (.bool true)) := by
  by_cases hl0 : xs0.length ≤ 1048576
  rotate_left
  · have d0 : (1048576 : Int) < (xs0.length : Int) := by omega
    unfold maxLen at m0_0
    go_enter Try.func8, Try.ntmps8
    go_wp2_with fail
    go_ret
    exact ⟨rfl, Ext.refl w⟩
  have d0 : decide ((1048576 : Int) < (xs0.length : Int)) = false := by simp; omega
  have hres : (encSparse xs0).length ≤ 1048576 := Nat.le_trans (encSparse_len xs0) (by omega)
  go_enter Try.func8, Try.ntmps8
  go_wp2_with fail
  refine (toIntS_ok _ _ _ _ (r0_0.ext (Ext.refl w)) hl0).mono ?_
  rintro e w1 ⟨t1a, t1c, rfl, t1o, e1⟩
  have E := (Ext.refl w).trans e1
  have z0 := e1.size_le
  replace t1o := OI.of t1o
  go_wp2_with fail
  refine (specEncodeSparse_ok _ _ _ _ (t1o.vals) hl0).mono ?_
  rintro e w2 ⟨u0a, u0c, rfl, u0o, e2⟩
  have z2 := e2.size_le
  replace t1o := t1o.ext e2
  replace E := E.trans e2
  clear e2
  replace u0o := OB.of u0o
  go_wp2_with fail
  refine (toIntS_ok _ _ _ _ (r0_0.ext (E)) hl0).mono ?_
  rintro e w3 ⟨t3a, t3c, rfl, t3o, e3⟩
  have z3 := e3.size_le
  replace u0o := u0o.ext e3
  replace E := E.trans e3
  clear e3
  replace t3o := OI.of t3o
  go_wp2_with fail
  refine (implEncodeSparse_ok _ _ _ _ (t3o.vals) hl0).mono ?_
  rintro e w4 ⟨u1a, u1c, rfl, u1o, e4⟩
  have z4 := e4.size_le
  replace u0o := u0o.ext e4
  replace t3o := t3o.ext e4
  replace E := E.trans e4
  clear e4
  replace u1o := OB.of u1o
  go_wp2_with fail
  refine (eqByteS_ok _ _ _ _ _ _ _ (u1o.vals) (u0o.vals) (by omega)).mono ?_
  rintro e w5 ⟨rfl, e5⟩
  replace e5 := Dr.ext e5
  have z5 := e5.size_le
  replace u0o := u0o.ext e5
  replace t3o := t3o.ext e5
  replace u1o := u1o.ext e5
  replace E := E.trans e5
  clear e5
  go_wp2_with fail
  refine (toIntS_ok _ _ _ _ (r0_0.ext (E)) hl0).mono ?_
  rintro e w6 ⟨t6a, t6c, rfl, t6o, e6⟩
  have z6 := e6.size_le
  replace u0o := u0o.ext e6
  replace t3o := t3o.ext e6
  replace u1o := u1o.ext e6
  replace E := E.trans e6
  clear e6
  replace t6o := OI.of t6o
  go_wp2_with fail
  refine (eqIntS_ok _ _ _ _ _ _ _ (t3o.vals) (t6o.vals) (by omega)).mono ?_
  rintro e w7 ⟨rfl, e7⟩
  replace e7 := Dr.ext e7
  have z7 := e7.size_le
  replace u0o := u0o.ext e7
  replace t3o := t3o.ext e7
  replace u1o := u1o.ext e7
  replace E := E.trans e7
  clear e7
  go_wp2_with fail
  refine (markIntS_ok _ _ _ _ _ _ _ t3o (by omega) (by omega) (by omega)).mono ?_
  rintro e w8 ⟨rfl, t3o', s8⟩
  have z8 := s8.size
  replace u0o := u0o.span s8 (by omega)
  replace u1o := u1o.span s8 (by omega)
  replace E := Span.ext E s8 (by omega)
  clear s8 t3o
  have t3o := t3o'
  clear t3o'
  go_wp2_with fail
  refine (eqByteS_ok _ _ _ _ _ _ _ (u1o.vals) (u0o.vals) (by omega)).mono ?_
  rintro e w9 ⟨rfl, e9⟩
  replace e9 := Dr.ext e9
  have z9 := e9.size_le
  replace u0o := u0o.ext e9
  replace u1o := u1o.ext e9
  replace E := E.trans e9
  clear e9
  go_wp2_with fail
  refine (markByteS_ok _ _ _ _ _ _ _ u1o (by omega) (by omega) (by omega)).mono ?_
  rintro e w10 ⟨rfl, u1o', s10⟩
  have z10 := s10.size
  replace u0o := u0o.span s10 (by omega)
  replace E := Span.ext E s10 (by omega)
  clear s10 u1o
  have u1o := u1o'
  clear u1o'
  go_wp2_with fail
  refine (heldByteS_ok _ _ _ _ _ (u1o.vals) (by omega) (by omega) (by omega)).mono ?_
  rintro e w11 ⟨rfl, rfl⟩
  go_wp2_with fail
  refine (toIntS_ok _ _ _ _ (r0_0.ext (E)) hl0).mono ?_
  rintro e w11 ⟨t11a, t11c, rfl, t11o, e11⟩
  have z11 := e11.size_le
  replace u0o := u0o.ext e11
  replace u1o := u1o.ext e11
  replace E := E.trans e11
  clear e11
  replace t11o := OI.of t11o
  go_wp2_with fail
  refine (implEncodeSparse_ok _ _ _ _ (t11o.vals) hl0).mono ?_
  rintro e w12 ⟨u2a, u2c, rfl, u2o, e12⟩
  have z12 := e12.size_le
  replace u0o := u0o.ext e12
  replace u1o := u1o.ext e12
  replace t11o := t11o.ext e12
  replace E := E.trans e12
  clear e12
  replace u2o := OB.of u2o
  go_wp2_with fail
  refine (eqByteS_ok _ _ _ _ _ _ _ (u2o.vals) (u0o.vals) (by omega)).mono ?_
  rintro e w13 ⟨rfl, e13⟩
  replace e13 := Dr.ext e13
  have z13 := e13.size_le
  replace u0o := u0o.ext e13
  replace u1o := u1o.ext e13
  replace u2o := u2o.ext e13
  replace E := E.trans e13
  clear e13
  go_wp2_with fail
  refine (heldByteS_ok _ _ _ _ _ (u1o.vals) (by omega) (by omega) (by omega)).mono ?_
  rintro e w14 ⟨rfl, rfl⟩
  go_wp2_with fail
  go_ret
  exact ⟨rfl, E⟩

set_option maxHeartbeats 4000000 in
set_option maxRecDepth 100000 in
theorem lawEncodeCoefficients (a0 : Option Addr) (c0 : Nat) (xs0 : List Int) (w : World) (r0_0 : Vals w a0 (I xs0)) (m0_0 : xs0.length ≤ maxLen) :
    Calls Try.prog 11 #[.slice a0 xs0.length c0] w (Gives w (.bool true)) := by
  by_cases hl0 : xs0.length ≤ 1048576
  rotate_left
  · have d0 : (1048576 : Int) < (xs0.length : Int) := by omega
    unfold maxLen at m0_0
    go_enter Try.func11, Try.ntmps11
    go_wp2_with fail
    go_ret
    exact ⟨rfl, Ext.refl w⟩
  have d0 : decide ((1048576 : Int) < (xs0.length : Int)) = false := by simp; omega
  have hres : (encCoef xs0).length ≤ 1048576 := Nat.le_trans (encCoef_len xs0) (by omega)
  go_enter Try.func11, Try.ntmps11
  go_wp2_with fail
  refine (toIntS_ok _ _ _ _ (r0_0.ext (Ext.refl w)) hl0).mono ?_
  rintro e w1 ⟨t1a, t1c, rfl, t1o, e1⟩
  have E := (Ext.refl w).trans e1
  have z0 := e1.size_le
  replace t1o := OI.of t1o
  go_wp2_with fail
  refine (specEncodeCoefficients_ok _ _ _ _ (t1o.vals) hl0).mono ?_
  rintro e w2 ⟨u0a, u0c, rfl, u0o, e2⟩
  have z2 := e2.size_le
  replace t1o := t1o.ext e2
  replace E := E.trans e2
  clear e2
  replace u0o := OB.of u0o
  go_wp2_with fail
  refine (toIntS_ok _ _ _ _ (r0_0.ext (E)) hl0).mono ?_
  rintro e w3 ⟨t3a, t3c, rfl, t3o, e3⟩
  have z3 := e3.size_le
  replace u0o := u0o.ext e3
  replace E := E.trans e3
  clear e3
  replace t3o := OI.of t3o
  go_wp2_with fail
  refine (implEncodeCoefficients_ok _ _ _ _ (t3o.vals) hl0).mono ?_
  rintro e w4 ⟨u1a, u1c, rfl, u1o, e4⟩
  have z4 := e4.size_le
  replace u0o := u0o.ext e4
  replace t3o := t3o.ext e4
  replace E := E.trans e4
  clear e4
  replace u1o := OB.of u1o
  go_wp2_with fail
  refine (eqByteS_ok _ _ _ _ _ _ _ (u1o.vals) (u0o.vals) (by omega)).mono ?_
  rintro e w5 ⟨rfl, e5⟩
  replace e5 := Dr.ext e5
  have z5 := e5.size_le
  replace u0o := u0o.ext e5
  replace t3o := t3o.ext e5
  replace u1o := u1o.ext e5
  replace E := E.trans e5
  clear e5
  go_wp2_with fail
  refine (toIntS_ok _ _ _ _ (r0_0.ext (E)) hl0).mono ?_
  rintro e w6 ⟨t6a, t6c, rfl, t6o, e6⟩
  have z6 := e6.size_le
  replace u0o := u0o.ext e6
  replace t3o := t3o.ext e6
  replace u1o := u1o.ext e6
  replace E := E.trans e6
  clear e6
  replace t6o := OI.of t6o
  go_wp2_with fail
  refine (eqIntS_ok _ _ _ _ _ _ _ (t3o.vals) (t6o.vals) (by omega)).mono ?_
  rintro e w7 ⟨rfl, e7⟩
  replace e7 := Dr.ext e7
  have z7 := e7.size_le
  replace u0o := u0o.ext e7
  replace t3o := t3o.ext e7
  replace u1o := u1o.ext e7
  replace E := E.trans e7
  clear e7
  go_wp2_with fail
  refine (markIntS_ok _ _ _ _ _ _ _ t3o (by omega) (by omega) (by omega)).mono ?_
  rintro e w8 ⟨rfl, t3o', s8⟩
  have z8 := s8.size
  replace u0o := u0o.span s8 (by omega)
  replace u1o := u1o.span s8 (by omega)
  replace E := Span.ext E s8 (by omega)
  clear s8 t3o
  have t3o := t3o'
  clear t3o'
  go_wp2_with fail
  refine (eqByteS_ok _ _ _ _ _ _ _ (u1o.vals) (u0o.vals) (by omega)).mono ?_
  rintro e w9 ⟨rfl, e9⟩
  replace e9 := Dr.ext e9
  have z9 := e9.size_le
  replace u0o := u0o.ext e9
  replace u1o := u1o.ext e9
  replace E := E.trans e9
  clear e9
  go_wp2_with fail
  refine (markByteS_ok _ _ _ _ _ _ _ u1o (by omega) (by omega) (by omega)).mono ?_
  rintro e w10 ⟨rfl, u1o', s10⟩
  have z10 := s10.size
  replace u0o := u0o.span s10 (by omega)
  replace E := Span.ext E s10 (by omega)
  clear s10 u1o
  have u1o := u1o'
  clear u1o'
  go_wp2_with fail
  refine (heldByteS_ok _ _ _ _ _ (u1o.vals) (by omega) (by omega) (by omega)).mono ?_
  rintro e w11 ⟨rfl, rfl⟩
  go_wp2_with fail
  refine (toIntS_ok _ _ _ _ (r0_0.ext (E)) hl0).mono ?_
  rintro e w11 ⟨t11a, t11c, rfl, t11o, e11⟩
  have z11 := e11.size_le
  replace u0o := u0o.ext e11
  replace u1o := u1o.ext e11
  replace E := E.trans e11
  clear e11
  replace t11o := OI.of t11o
  go_wp2_with fail
  refine (implEncodeCoefficients_ok _ _ _ _ (t11o.vals) hl0).mono ?_
  rintro e w12 ⟨u2a, u2c, rfl, u2o, e12⟩
  have z12 := e12.size_le
  replace u0o := u0o.ext e12
  replace u1o := u1o.ext e12
  replace t11o := t11o.ext e12
  replace E := E.trans e12
  clear e12
  replace u2o := OB.of u2o
  go_wp2_with fail
  refine (eqByteS_ok _ _ _ _ _ _ _ (u2o.vals) (u0o.vals) (by omega)).mono ?_
  rintro e w13 ⟨rfl, e13⟩
  replace e13 := Dr.ext e13
  have z13 := e13.size_le
  replace u0o := u0o.ext e13
  replace u1o := u1o.ext e13
  replace u2o := u2o.ext e13
  replace E := E.trans e13
  clear e13
  go_wp2_with fail
  refine (heldByteS_ok _ _ _ _ _ (u1o.vals) (by omega) (by omega) (by omega)).mono ?_
  rintro e w14 ⟨rfl, rfl⟩
  go_wp2_with fail
  go_ret
  exact ⟨rfl, E⟩

set_option maxHeartbeats 4000000 in
set_option maxRecDepth 100000 in
theorem lawEncodedSize (a0 : Option Addr) (c0 : Nat) (xs0 : List Int) (w : World) (r0_0 : Vals w a0 (I xs0)) (m0_0 : xs0.length ≤ maxLen) :
    Calls Try.prog 9 #[.slice a0 xs0.length c0] w (Gives w (.bool true)) := by
  by_cases hl0 : xs0.length ≤ 1048576
  rotate_left
  · have d0 : (1048576 : Int) < (xs0.length : Int) := by omega
    unfold maxLen at m0_0
    go_enter Try.func9, Try.ntmps9
    go_wp2_with fail
    go_ret
    exact ⟨rfl, Ext.refl w⟩
  have d0 : decide ((1048576 : Int) < (xs0.length : Int)) = false := by simp; omega
  go_enter Try.func9, Try.ntmps9
  go_wp2_with fail
  refine (toIntS_ok _ _ _ _ (r0_0.ext (Ext.refl w)) hl0).mono ?_
  rintro e w1 ⟨t1a, t1c, rfl, t1o, e1⟩
  have E := (Ext.refl w).trans e1
  have z0 := e1.size_le
  replace t1o := OI.of t1o
  go_wp2_with fail
  refine (specEncodedSize_ok _ _ _ _ (t1o.vals) hl0).mono ?_
  rintro e w2 ⟨rfl, e2⟩
  have z2 := e2.size_le
  replace t1o := t1o.ext e2
  replace E := E.trans e2
  clear e2
  go_wp2_with fail
  refine (toIntS_ok _ _ _ _ (r0_0.ext (E)) hl0).mono ?_
  rintro e w3 ⟨t3a, t3c, rfl, t3o, e3⟩
  have z3 := e3.size_le
  replace E := E.trans e3
  clear e3
  replace t3o := OI.of t3o
  go_wp2_with fail
  refine (implEncodedSize_ok _ _ _ _ (t3o.vals) hl0).mono ?_
  rintro e w4 ⟨rfl, e4⟩
  have z4 := e4.size_le
  replace t3o := t3o.ext e4
  replace E := E.trans e4
  clear e4
  have q0 : ((((encCoef xs0).length : Int)) != (((encCoef xs0).length : Int))) = false := by simp
  go_wp2_with fail
  refine (toIntS_ok _ _ _ _ (r0_0.ext (E)) hl0).mono ?_
  rintro e w5 ⟨t5a, t5c, rfl, t5o, e5⟩
  have z5 := e5.size_le
  replace t3o := t3o.ext e5
  replace E := E.trans e5
  clear e5
  replace t5o := OI.of t5o
  go_wp2_with fail
  refine (eqIntS_ok _ _ _ _ _ _ _ (t3o.vals) (t5o.vals) (by omega)).mono ?_
  rintro e w6 ⟨rfl, e6⟩
  replace e6 := Dr.ext e6
  have z6 := e6.size_le
  replace t3o := t3o.ext e6
  replace E := E.trans e6
  clear e6
  go_wp2_with fail
  go_ret
  exact ⟨rfl, E⟩

end Go.Proofs.Ythhojflpaebloaa
