/- The law of CombinePackets. -/
import Derived.Test.YtkegknophppdgaaCpk
import Derived.Test.YtkegknophppdgaaCps
import Derived.Test.YtkegknophppdgaaOpnP
import Derived.Test.YtkegknophppdgaaLawTot
namespace Go.Proofs.Ytkegknophppdgaa
open Go.RowKit
set_option linter.unusedVariables false
set_option maxRecDepth 20000

theorem comb_len (xss : List (List Int)) (cs : List Int) : (comb xss cs).length ≤ 40 := by
  unfold comb
  split
  · simp
  · rename_i h
    simp only [Bool.or_eq_true, decide_eq_true_eq, Bool.not_eq_true', not_or] at h
    obtain ⟨h1, h2, h3, h4⟩ := h
    have hvr : VR (cols xss) xss := vrows_true.1 (by simpa using h4)
    have hl : xss.length = cs.length := by omega
    rw [cmbTo_len cs hvr hl]
    obtain ⟨xs, hxs⟩ : ∃ xs, xss[0]? = some xs := ⟨_, List.getElem?_eq_getElem (by omega)⟩
    have := hvr.ok hxs
    omega
theorem cp_bounds (ps : List Pk) (cs : List Int) : (cpU ps cs).length ≤ 1048576 ∧ (cpV ps cs).length ≤ 1048576 := by
  have h1 := comb_len (colX ps ps.length) cs
  have h2 := comb_len (colY ps ps.length) cs
  unfold cpU cpV cpX cpY
  constructor
  · split
    · omega
    · simp
  · split
    · omega
    · simp

set_option maxHeartbeats 4000000 in
set_option maxRecDepth 100000 in
theorem lawCombinePackets (a0 : Option Addr) (c0 : Nat) (xs0 : List Pk) (a1 : Option Addr) (c1 : Nat) (xs1 : List Int) (w : World) (r0_0 : SRp w a0 xs0) (r1_0 : Vals w a1 (I xs1)) (m0_0 : xs0.length ≤ maxLen) (m0_1 : ∀ p ∈ xs0, p.2.1.length ≤ maxLen ∧ p.2.2.length ≤ maxLen) (m1_0 : xs1.length ≤ maxLen) :
    Calls Try.prog 4 #[.slice a0 xs0.length c0, .slice a1 xs1.length c1] w (Gives w (.bool true)) := by
  replace m0_1 := Lib.hid m0_1
  by_cases hl1 : xs1.length ≤ 1048576
  rotate_left
  · have d1 : (1048576 : Int) < (xs1.length : Int) := by omega
    unfold maxLen at m1_0
    go_enter Try.func4, Try.ntmps4
    go_wp2_with fail
    go_ret
    exact ⟨rfl, Ext.refl w⟩
  have d1 : decide ((1048576 : Int) < (xs1.length : Int)) = false := by simp; omega
  by_cases hs0 : szPs xs0 1048576 < 0
  · skip
    go_enter Try.func4, Try.ntmps4
    go_wp2_with fail
    refine (szCodedPacketS_ok _ _ _ _ _ (r0_0.ext (Ext.refl w)) m0_0 m0_1.out (by omega) (by omega)).mono ?_
    rintro e w1 ⟨rfl, e1⟩
    have E := (Ext.refl w).trans e1
    have z0 := e1.size_le
    go_wp2_with fail
    go_ret
    exact ⟨rfl, E⟩
  obtain ⟨hle0, heq0⟩ := szPs_le (Int.not_lt.1 hs0)
  have hl0 : xs0.length ≤ 1048576 := by omega
  have hu0 : sumP xs0 ≤ 1048576 := by omega
  have hr0 : Hid (∀ p ∈ xs0, p.2.1.length ≤ 1048576 ∧ p.2.2.length ≤ 1048576) := fun p hp => by have := sumP_mem hp; exact ⟨by omega, by omega⟩
  have ht0 : totP xs0 ≤ 1048576 := by have := totP_sum xs0; omega
  have hf0 : szPs xs0 1048576 ≤ 1048576 := by omega
  have hg0 : 0 ≤ szPs xs0 1048576 := by omega
  replace heq0 := Lib.hid heq0
  have hres1 : (cpU xs0 xs1).length ≤ 1048576 := (cp_bounds xs0 xs1).1
  have hres2 : (cpV xs0 xs1).length ≤ 1048576 := (cp_bounds xs0 xs1).2
  go_enter Try.func4, Try.ntmps4
  go_wp2_with fail
  refine (szCodedPacketS_ok _ _ _ _ _ (r0_0.ext (Ext.refl w)) m0_0 m0_1.out (by omega) (by omega)).mono ?_
  rintro e w1 ⟨rfl, e1⟩
  have E := (Ext.refl w).trans e1
  have z0 := e1.size_le
  go_wp2_with fail
  refine (toCodedPacketS_ok _ _ _ _ (r0_0.ext (E)) hl0 hr0.out).mono ?_
  rintro e w2 ⟨t2a, t2c, rfl, t2o, e2⟩
  have z2 := e2.size_le
  replace E := E.trans e2
  clear e2
  go_wp2_with fail
  refine (toIntS_ok _ _ _ _ (r1_0.ext (E)) hl1).mono ?_
  rintro e w3 ⟨t3a, t3c, rfl, t3o, e3⟩
  have z3 := e3.size_le
  replace t2o := t2o.ext e3
  replace E := E.trans e3
  clear e3
  replace t3o := OI.of t3o
  go_wp2_with fail
  refine (specCombinePackets_ok _ _ _ _ _ _ _ (t2o.reads) (t3o.vals) hl0 hr0.out hl1).mono ?_
  rintro e w4 ⟨u0a, u0c, u0b, u0d, rfl, u0o, u0p, u0x, e4⟩
  have z4 := e4.size_le
  replace t2o := t2o.ext e4
  replace t3o := t3o.ext e4
  replace E := E.trans e4
  clear e4
  replace u0o := OPk.of u0o u0p u0x
  go_wp2_with fail
  refine (toCodedPacketS_ok _ _ _ _ (r0_0.ext (E.alloc _)) hl0 hr0.out).mono ?_
  rintro e w5 ⟨t5a, t5c, rfl, t5o, e5⟩
  have z5 := e5.size_le
  simp at z5
  replace u0o := u0o.ext (((Ext.refl w4).alloc _).trans e5)
  have w0_0 := e5.cell (p := ⟨w4.heap.size, 0, none⟩) (v := .int .i64 (cpN xs0 xs1)) (by simp)
  have w0_1 := e5.cell (p := ⟨w4.heap.size, 1, none⟩) (v := .slice u0a (cpU xs0 xs1).length u0c) (by simp)
  have w0_2 := e5.cell (p := ⟨w4.heap.size, 2, none⟩) (v := .slice u0b (cpV xs0 xs1).length u0d) (by simp)
  replace E := (E.alloc _).trans e5
  clear e5
  replace t5o := t5o.mono (C := w4.heap.size + 1) (C2 := w5.heap.size) (by simp) (Nat.le_refl _)
  go_wp2_with fail
  refine (toIntS_ok _ _ _ _ (r1_0.ext (E)) hl1).mono ?_
  rintro e w6 ⟨t6a, t6c, rfl, t6o, e6⟩
  have z6 := e6.size_le
  replace w0_0 := e6.cell w0_0
  replace w0_1 := e6.cell w0_1
  replace w0_2 := e6.cell w0_2
  replace u0o := u0o.ext e6
  replace t5o := t5o.ext e6
  replace E := E.trans e6
  clear e6
  replace t6o := OI.of t6o
  go_wp2_with fail
  refine (implCombinePackets_ok _ _ _ _ _ _ _ (t5o.reads) (t6o.vals) hl0 hr0.out hl1).mono ?_
  rintro e w7 ⟨u1a, u1c, u1b, u1d, rfl, u1o, u1p, u1x, e7⟩
  have z7 := e7.size_le
  replace w0_0 := e7.cell w0_0
  replace w0_1 := e7.cell w0_1
  replace w0_2 := e7.cell w0_2
  replace u0o := u0o.ext e7
  replace t5o := t5o.ext e7
  replace t6o := t6o.ext e7
  replace E := E.trans e7
  clear e7
  replace u1o := OPk.of u1o u1p u1x
  have qself := eqPk_self (cpN xs0 xs1) (cpU xs0 xs1) (cpV xs0 xs1)
  have qflag : ((cpOk xs0 xs1) != (cpOk xs0 xs1)) = false := by simp
  have y_w0_0 := ((Ext.refl w7).alloc (.cells #[.int .i64 (cpN xs0 xs1), .slice u1a (cpU xs0 xs1).length u1c, .slice u1b (cpV xs0 xs1).length u1d] 35)).cell w0_0
  have y_w0_1 := ((Ext.refl w7).alloc (.cells #[.int .i64 (cpN xs0 xs1), .slice u1a (cpU xs0 xs1).length u1c, .slice u1b (cpV xs0 xs1).length u1d] 35)).cell w0_1
  have y_w0_2 := ((Ext.refl w7).alloc (.cells #[.int .i64 (cpN xs0 xs1), .slice u1a (cpU xs0 xs1).length u1c, .slice u1b (cpV xs0 xs1).length u1d] 35)).cell w0_2
  go_wp2_with fail
  refine (eqCodedPacket_ok _ _ _ _ _ _ _ _ _ _ _ _ _ _ _ ((u1o.one).ext ((Ext.refl _).alloc _)) ((u1o.two).ext ((Ext.refl _).alloc _)) ((u0o.one).ext ((Ext.refl _).alloc _)) ((u0o.two).ext ((Ext.refl _).alloc _)) hres1 hres2).mono ?_
  clear y_w0_0 y_w0_1 y_w0_2
  rintro e w8 ⟨rfl, e8⟩
  have z8 := e8.size_le
  simp at z8
  replace w0_0 := (((Ext.refl w7).alloc _).trans e8).cell w0_0
  replace w0_1 := (((Ext.refl w7).alloc _).trans e8).cell w0_1
  replace w0_2 := (((Ext.refl w7).alloc _).trans e8).cell w0_2
  replace u0o := u0o.ext (((Ext.refl w7).alloc _).trans e8)
  replace t5o := t5o.ext (((Ext.refl w7).alloc _).trans e8)
  replace t6o := t6o.ext (((Ext.refl w7).alloc _).trans e8)
  replace u1o := u1o.ext (((Ext.refl w7).alloc _).trans e8)
  have g0_0 := e8.cell (p := ⟨w7.heap.size, 0, none⟩) (v := .int .i64 (cpN xs0 xs1)) (by simp)
  have g0_1 := e8.cell (p := ⟨w7.heap.size, 1, none⟩) (v := .slice u1a (cpU xs0 xs1).length u1c) (by simp)
  have g0_2 := e8.cell (p := ⟨w7.heap.size, 2, none⟩) (v := .slice u1b (cpV xs0 xs1).length u1d) (by simp)
  replace E := (E.alloc _).trans e8
  clear e8
  go_wp2_with fail
  refine (toCodedPacketS_ok _ _ _ _ (r0_0.ext (E)) hl0 hr0.out).mono ?_
  rintro e w9 ⟨t9a, t9c, rfl, t9o, e9⟩
  have z9 := e9.size_le
  replace w0_0 := e9.cell w0_0
  replace w0_1 := e9.cell w0_1
  replace w0_2 := e9.cell w0_2
  replace g0_0 := e9.cell g0_0
  replace g0_1 := e9.cell g0_1
  replace g0_2 := e9.cell g0_2
  replace u0o := u0o.ext e9
  replace t5o := t5o.ext e9
  replace t6o := t6o.ext e9
  replace u1o := u1o.ext e9
  replace E := E.trans e9
  clear e9
  go_wp2_with fail
  refine (eqCodedPacketS_self _ _ _ _ _ _ (t5o.reads) (t9o.reads) hl0 hr0.out).mono ?_
  rintro e w10 ⟨rfl, e10⟩
  have z10 := e10.size_le
  replace w0_0 := e10.cell w0_0
  replace w0_1 := e10.cell w0_1
  replace w0_2 := e10.cell w0_2
  replace g0_0 := e10.cell g0_0
  replace g0_1 := e10.cell g0_1
  replace g0_2 := e10.cell g0_2
  replace u0o := u0o.ext e10
  replace t5o := t5o.ext e10
  replace t6o := t6o.ext e10
  replace u1o := u1o.ext e10
  replace E := E.trans e10
  clear e10
  go_wp2_with fail
  refine (toIntS_ok _ _ _ _ (r1_0.ext (E)) hl1).mono ?_
  rintro e w11 ⟨t11a, t11c, rfl, t11o, e11⟩
  have z11 := e11.size_le
  replace w0_0 := e11.cell w0_0
  replace w0_1 := e11.cell w0_1
  replace w0_2 := e11.cell w0_2
  replace g0_0 := e11.cell g0_0
  replace g0_1 := e11.cell g0_1
  replace g0_2 := e11.cell g0_2
  replace u0o := u0o.ext e11
  replace t5o := t5o.ext e11
  replace t6o := t6o.ext e11
  replace u1o := u1o.ext e11
  replace E := E.trans e11
  clear e11
  replace t11o := OI.of t11o
  go_wp2_with fail
  refine (eqIntS_ok _ _ _ _ _ _ _ (t6o.vals) (t11o.vals) (by omega)).mono ?_
  rintro e w12 ⟨rfl, e12⟩
  replace e12 := Dr.ext e12
  have z12 := e12.size_le
  replace w0_0 := e12.cell w0_0
  replace w0_1 := e12.cell w0_1
  replace w0_2 := e12.cell w0_2
  replace g0_0 := e12.cell g0_0
  replace g0_1 := e12.cell g0_1
  replace g0_2 := e12.cell g0_2
  replace u0o := u0o.ext e12
  replace t5o := t5o.ext e12
  replace t6o := t6o.ext e12
  replace u1o := u1o.ext e12
  replace E := E.trans e12
  clear e12
  go_wp2_with fail
  refine (markCodedPacketS_ok _ _ _ _ _ _ _ t5o hl0 ht0 (by omega) (by omega)).mono ?_
  rintro e w13 ⟨rfl, t5o', s13⟩
  have z13 := s13.size
  replace w0_0 := s13.cell w0_0 (by show w4.heap.size < _ ∨ _ ≤ w4.heap.size; omega)
  replace w0_1 := s13.cell w0_1 (by show w4.heap.size < _ ∨ _ ≤ w4.heap.size; omega)
  replace w0_2 := s13.cell w0_2 (by show w4.heap.size < _ ∨ _ ≤ w4.heap.size; omega)
  replace g0_0 := s13.cell g0_0 (by show w7.heap.size < _ ∨ _ ≤ w7.heap.size; omega)
  replace g0_1 := s13.cell g0_1 (by show w7.heap.size < _ ∨ _ ≤ w7.heap.size; omega)
  replace g0_2 := s13.cell g0_2 (by show w7.heap.size < _ ∨ _ ≤ w7.heap.size; omega)
  replace u0o := u0o.span s13 (by omega)
  replace t6o := t6o.span s13 (by omega)
  replace u1o := u1o.span s13 (by omega)
  replace E := Span.ext E s13 (by omega)
  clear s13 t5o
  have t5o := t5o'
  clear t5o'
  go_wp2_with fail
  refine (markIntS_ok _ _ _ _ _ _ _ t6o (by omega) (by omega) (by omega)).mono ?_
  rintro e w14 ⟨rfl, t6o', s14⟩
  have z14 := s14.size
  replace w0_0 := s14.cell w0_0 (by show w4.heap.size < _ ∨ _ ≤ w4.heap.size; omega)
  replace w0_1 := s14.cell w0_1 (by show w4.heap.size < _ ∨ _ ≤ w4.heap.size; omega)
  replace w0_2 := s14.cell w0_2 (by show w4.heap.size < _ ∨ _ ≤ w4.heap.size; omega)
  replace g0_0 := s14.cell g0_0 (by show w7.heap.size < _ ∨ _ ≤ w7.heap.size; omega)
  replace g0_1 := s14.cell g0_1 (by show w7.heap.size < _ ∨ _ ≤ w7.heap.size; omega)
  replace g0_2 := s14.cell g0_2 (by show w7.heap.size < _ ∨ _ ≤ w7.heap.size; omega)
  replace u0o := u0o.span s14 (by omega)
  replace u1o := u1o.span s14 (by omega)
  replace E := Span.ext E s14 (by omega)
  clear s14 t6o
  have t6o := t6o'
  clear t6o'
  go_wp2_with fail
  refine (eqCodedPacket_ok _ _ _ _ _ _ _ _ _ _ _ _ _ _ _ (u1o.one) (u1o.two) (u0o.one) (u0o.two) hres1 hres2).mono ?_
  rintro e w15 ⟨rfl, e15⟩
  have z15 := e15.size_le
  replace w0_0 := e15.cell w0_0
  replace w0_1 := e15.cell w0_1
  replace w0_2 := e15.cell w0_2
  replace g0_0 := e15.cell g0_0
  replace g0_1 := e15.cell g0_1
  replace g0_2 := e15.cell g0_2
  replace u0o := u0o.ext e15
  replace u1o := u1o.ext e15
  replace E := E.trans e15
  clear e15
  go_wp2_with fail
  refine (markCodedPacket_ok _ _ _ _ _ _ _ _ _ _ _ u1o (by omega) (by omega) (by omega) (by omega) (by omega)).mono ?_
  rintro e w16 ⟨rfl, u1o', s16⟩
  have z16 := s16.size
  replace w0_0 := s16.cell w0_0 (by show w4.heap.size < _ ∨ _ ≤ w4.heap.size; omega)
  replace w0_1 := s16.cell w0_1 (by show w4.heap.size < _ ∨ _ ≤ w4.heap.size; omega)
  replace w0_2 := s16.cell w0_2 (by show w4.heap.size < _ ∨ _ ≤ w4.heap.size; omega)
  replace g0_0 := s16.cell g0_0 (by show w7.heap.size < _ ∨ _ ≤ w7.heap.size; omega)
  replace g0_1 := s16.cell g0_1 (by show w7.heap.size < _ ∨ _ ≤ w7.heap.size; omega)
  replace g0_2 := s16.cell g0_2 (by show w7.heap.size < _ ∨ _ ≤ w7.heap.size; omega)
  replace u0o := u0o.span s16 (by omega)
  replace E := Span.ext E s16 (by omega)
  clear s16 u1o
  have u1o := u1o'
  clear u1o'
  go_wp2_with fail
  refine (heldCodedPacket_ok _ _ _ _ _ _ _ _ _ (u1o.one) (u1o.two) (by omega) (by omega) (by omega) (by omega)).mono ?_
  rintro e w17 ⟨rfl, e17⟩
  have z17 := e17.size_le
  replace w0_0 := e17.cell w0_0
  replace w0_1 := e17.cell w0_1
  replace w0_2 := e17.cell w0_2
  replace g0_0 := e17.cell g0_0
  replace g0_1 := e17.cell g0_1
  replace g0_2 := e17.cell g0_2
  replace u0o := u0o.ext e17
  replace u1o := u1o.ext e17
  replace E := E.trans e17
  clear e17
  go_wp2_with fail
  refine (toCodedPacketS_ok _ _ _ _ (r0_0.ext (E)) hl0 hr0.out).mono ?_
  rintro e w18 ⟨t18a, t18c, rfl, t18o, e18⟩
  have z18 := e18.size_le
  replace w0_0 := e18.cell w0_0
  replace w0_1 := e18.cell w0_1
  replace w0_2 := e18.cell w0_2
  replace g0_0 := e18.cell g0_0
  replace g0_1 := e18.cell g0_1
  replace g0_2 := e18.cell g0_2
  replace u0o := u0o.ext e18
  replace u1o := u1o.ext e18
  replace E := E.trans e18
  clear e18
  go_wp2_with fail
  refine (toIntS_ok _ _ _ _ (r1_0.ext (E)) hl1).mono ?_
  rintro e w19 ⟨t19a, t19c, rfl, t19o, e19⟩
  have z19 := e19.size_le
  replace w0_0 := e19.cell w0_0
  replace w0_1 := e19.cell w0_1
  replace w0_2 := e19.cell w0_2
  replace g0_0 := e19.cell g0_0
  replace g0_1 := e19.cell g0_1
  replace g0_2 := e19.cell g0_2
  replace u0o := u0o.ext e19
  replace u1o := u1o.ext e19
  replace t18o := t18o.ext e19
  replace E := E.trans e19
  clear e19
  replace t19o := OI.of t19o
  go_wp2_with fail
  refine (implCombinePackets_ok _ _ _ _ _ _ _ (t18o.reads) (t19o.vals) hl0 hr0.out hl1).mono ?_
  rintro e w20 ⟨u2a, u2c, u2b, u2d, rfl, u2o, u2p, u2x, e20⟩
  have z20 := e20.size_le
  replace w0_0 := e20.cell w0_0
  replace w0_1 := e20.cell w0_1
  replace w0_2 := e20.cell w0_2
  replace g0_0 := e20.cell g0_0
  replace g0_1 := e20.cell g0_1
  replace g0_2 := e20.cell g0_2
  replace u0o := u0o.ext e20
  replace u1o := u1o.ext e20
  replace t18o := t18o.ext e20
  replace t19o := t19o.ext e20
  replace E := E.trans e20
  clear e20
  replace u2o := OPk.of u2o u2p u2x
  have y_w0_0 := ((Ext.refl w20).alloc (.cells #[.int .i64 (cpN xs0 xs1), .slice u2a (cpU xs0 xs1).length u2c, .slice u2b (cpV xs0 xs1).length u2d] 35)).cell w0_0
  have y_w0_1 := ((Ext.refl w20).alloc (.cells #[.int .i64 (cpN xs0 xs1), .slice u2a (cpU xs0 xs1).length u2c, .slice u2b (cpV xs0 xs1).length u2d] 35)).cell w0_1
  have y_w0_2 := ((Ext.refl w20).alloc (.cells #[.int .i64 (cpN xs0 xs1), .slice u2a (cpU xs0 xs1).length u2c, .slice u2b (cpV xs0 xs1).length u2d] 35)).cell w0_2
  have y_g0_0 := ((Ext.refl w20).alloc (.cells #[.int .i64 (cpN xs0 xs1), .slice u2a (cpU xs0 xs1).length u2c, .slice u2b (cpV xs0 xs1).length u2d] 35)).cell g0_0
  have y_g0_1 := ((Ext.refl w20).alloc (.cells #[.int .i64 (cpN xs0 xs1), .slice u2a (cpU xs0 xs1).length u2c, .slice u2b (cpV xs0 xs1).length u2d] 35)).cell g0_1
  have y_g0_2 := ((Ext.refl w20).alloc (.cells #[.int .i64 (cpN xs0 xs1), .slice u2a (cpU xs0 xs1).length u2c, .slice u2b (cpV xs0 xs1).length u2d] 35)).cell g0_2
  go_wp2_with fail
  refine (eqCodedPacket_ok _ _ _ _ _ _ _ _ _ _ _ _ _ _ _ ((u2o.one).ext ((Ext.refl _).alloc _)) ((u2o.two).ext ((Ext.refl _).alloc _)) ((u0o.one).ext ((Ext.refl _).alloc _)) ((u0o.two).ext ((Ext.refl _).alloc _)) hres1 hres2).mono ?_
  clear y_w0_0 y_w0_1 y_w0_2 y_g0_0 y_g0_1 y_g0_2
  rintro e w21 ⟨rfl, e21⟩
  have z21 := e21.size_le
  simp at z21
  replace w0_0 := (((Ext.refl w20).alloc _).trans e21).cell w0_0
  replace w0_1 := (((Ext.refl w20).alloc _).trans e21).cell w0_1
  replace w0_2 := (((Ext.refl w20).alloc _).trans e21).cell w0_2
  replace g0_0 := (((Ext.refl w20).alloc _).trans e21).cell g0_0
  replace g0_1 := (((Ext.refl w20).alloc _).trans e21).cell g0_1
  replace g0_2 := (((Ext.refl w20).alloc _).trans e21).cell g0_2
  replace u0o := u0o.ext (((Ext.refl w20).alloc _).trans e21)
  replace u1o := u1o.ext (((Ext.refl w20).alloc _).trans e21)
  replace u2o := u2o.ext (((Ext.refl w20).alloc _).trans e21)
  have h0_0 := e21.cell (p := ⟨w20.heap.size, 0, none⟩) (v := .int .i64 (cpN xs0 xs1)) (by simp)
  have h0_1 := e21.cell (p := ⟨w20.heap.size, 1, none⟩) (v := .slice u2a (cpU xs0 xs1).length u2c) (by simp)
  have h0_2 := e21.cell (p := ⟨w20.heap.size, 2, none⟩) (v := .slice u2b (cpV xs0 xs1).length u2d) (by simp)
  replace E := (E.alloc _).trans e21
  clear e21
  go_wp2_with fail
  refine (heldCodedPacket_ok _ _ _ _ _ _ _ _ _ (u1o.one) (u1o.two) (by omega) (by omega) (by omega) (by omega)).mono ?_
  rintro e w22 ⟨rfl, e22⟩
  have z22 := e22.size_le
  replace w0_0 := e22.cell w0_0
  replace w0_1 := e22.cell w0_1
  replace w0_2 := e22.cell w0_2
  replace g0_0 := e22.cell g0_0
  replace g0_1 := e22.cell g0_1
  replace g0_2 := e22.cell g0_2
  replace h0_0 := e22.cell h0_0
  replace h0_1 := e22.cell h0_1
  replace h0_2 := e22.cell h0_2
  replace u0o := u0o.ext e22
  replace u1o := u1o.ext e22
  replace u2o := u2o.ext e22
  replace E := E.trans e22
  clear e22
  go_wp2_with fail
  go_ret
  exact ⟨rfl, E⟩

end Go.Proofs.Ytkegknophppdgaa
