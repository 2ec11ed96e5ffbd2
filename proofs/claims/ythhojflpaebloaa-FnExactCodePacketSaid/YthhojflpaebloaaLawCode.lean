/- The law of CodePacket. -/
import Derived.Test.YthhojflpaebloaaCode
import Derived.Deep.RegionHeld3
namespace Go.Proofs.Ythhojflpaebloaa
open Go.RowKit
set_option linter.unusedVariables false

theorem codeC_len (n : Int) (xss : List (List Int)) (cs : List Int) : (codeC n xss cs).length ≤ 40 := by
  unfold codeC
  split
  · rename_i h; exact (validV_true.1 (codeOk_parts h).2.1).2
  · simp
theorem codeP_len (n : Int) (xss : List (List Int)) (cs : List Int) : (codeP n xss cs).length ≤ 40 := by
  unfold codeP
  split
  · rename_i h
    obtain ⟨_, _, hl, hvr, _, hn, _⟩ := codeOk_parts h
    rw [cmbTo_len cs hvr hl]
    obtain ⟨xs, hxs⟩ : ∃ xs, xss[0]? = some xs := ⟨_, List.getElem?_eq_getElem (by omega)⟩
    have := hvr.ok hxs
    omega
  · simp

theorem code_bounds (n : Int) (xss : List (List Int)) (cs : List Int) : (codeC n xss cs).length ≤ 1048576 ∧ (codeP n xss cs).length ≤ 1048576 := ⟨Nat.le_trans (codeC_len n xss cs) (by omega), Nat.le_trans (codeP_len n xss cs) (by omega)⟩

set_option maxHeartbeats 4000000 in
set_option maxRecDepth 100000 in
theorem lawCodePacket (n0 : Int) (a0 : Option Addr) (c0 : Nat) (xss0 : List (List Int)) (a1 : Option Addr) (c1 : Nat) (xs1 : List Int) (w : World) (r0_0 : MatR w a0 xss0) (r1_0 : Vals w a1 (I xs1)) (m0_0 : xss0.length ≤ maxLen) (m0_1 : ∀ xs ∈ xss0, xs.length ≤ maxLen) (m1_0 : xs1.length ≤ maxLen) :
    Calls Try.prog 14 #[bsV n0 a0 c0 xss0, .slice a1 xs1.length c1] w (Gives w (.bool true)) := by
  replace m0_1 := Lib.hid m0_1
  by_cases hl1 : xs1.length ≤ 1048576
  rotate_left
  · have d1 : (1048576 : Int) < (xs1.length : Int) := by omega
    unfold maxLen at m1_0
    go_enter Try.func14, Try.ntmps14
    go_wp2_with fail
    go_ret
    exact ⟨rfl, (Ext.refl w).alloc _⟩
  have d1 : decide ((1048576 : Int) < (xs1.length : Int)) = false := by simp; omega
  by_cases hs0 : szM xss0 1048576 < 0
  · skip
    go_enter Try.func14, Try.ntmps14
    go_wp2_with fail
    refine (szGeneration_ok _ _ _ _ _ _ (r0_0.ext ((Ext.refl w).alloc _)) m0_0 m0_1.out (by omega) (by omega)).mono ?_
    rintro e w1 ⟨rfl, e1⟩
    have E := ((Ext.refl w).alloc _).trans e1
    have z0 := e1.size_le
    simp at z0
    have p0_0 := e1.cell (p := ⟨w.heap.size, 0, none⟩) (v := .int .i64 n0) (by simp)
    have p0_1 := e1.cell (p := ⟨w.heap.size, 1, none⟩) (v := .slice a0 xss0.length c0) (by simp)
    go_wp2_with fail
    go_ret
    exact ⟨rfl, E⟩
  obtain ⟨hle0, heq0⟩ := szM_le (Int.not_lt.1 hs0)
  have hl0 : xss0.length ≤ 1048576 := by omega
  have hr0 : Hid (∀ xs ∈ xss0, xs.length ≤ 1048576) := fun xs hx => by have := rows_le hx; omega
  have ht0 : tot xss0 ≤ 1099511627776 := by omega
  have hu0 : tot xss0 ≤ 1048576 := by omega
  have hf0 : szM xss0 1048576 ≤ 1048576 := by omega
  have hg0 : 0 ≤ szM xss0 1048576 := by omega
  replace heq0 := Lib.hid heq0
  have hres1 : (codeC n0 xss0 xs1).length ≤ 1048576 := (code_bounds n0 xss0 xs1).1
  have hres2 : (codeP n0 xss0 xs1).length ≤ 1048576 := (code_bounds n0 xss0 xs1).2
  go_enter Try.func14, Try.ntmps14
  go_wp2_with fail
  refine (szGeneration_ok _ _ _ _ _ _ (r0_0.ext ((Ext.refl w).alloc _)) m0_0 m0_1.out (by omega) (by omega)).mono ?_
  rintro e w1 ⟨rfl, e1⟩
  have E := ((Ext.refl w).alloc _).trans e1
  have z0 := e1.size_le
  simp at z0
  have p0_0 := e1.cell (p := ⟨w.heap.size, 0, none⟩) (v := .int .i64 n0) (by simp)
  have p0_1 := e1.cell (p := ⟨w.heap.size, 1, none⟩) (v := .slice a0 xss0.length c0) (by simp)
  go_wp2_with fail
  refine (toGeneration_ok _ _ _ _ _ (r0_0.ext (E)) hl0 hr0.out).mono ?_
  rintro e w2 ⟨t2a, t2c, rfl, t2o, e2⟩
  have z2 := e2.size_le
  replace p0_0 := e2.cell p0_0
  replace p0_1 := e2.cell p0_1
  replace E := E.trans e2
  clear e2
  go_wp2_with fail
  refine (toIntS_ok _ _ _ _ (r1_0.ext (E)) hl1).mono ?_
  rintro e w3 ⟨t3a, t3c, rfl, t3o, e3⟩
  have z3 := e3.size_le
  replace p0_0 := e3.cell p0_0
  replace p0_1 := e3.cell p0_1
  replace t2o := t2o.ext e3
  replace E := E.trans e3
  clear e3
  replace t3o := OI.of t3o
  go_wp2_with fail
  refine (specCodePacket_ok _ _ _ _ _ _ _ _ (t2o.reads) (t3o.vals) hl0 hr0.out hl1).mono ?_
  rintro e w4 ⟨u0a, u0c, u0b, u0d, rfl, u0o, u0p, u0x, e4⟩
  have z4 := e4.size_le
  replace p0_0 := e4.cell p0_0
  replace p0_1 := e4.cell p0_1
  replace t2o := t2o.ext e4
  replace t3o := t3o.ext e4
  replace E := E.trans e4
  clear e4
  replace u0o := OPk.of u0o u0p u0x
  have y_p0_0 := ((Ext.refl w4).alloc (.cells #[.int .i64 (codeN n0 xss0 xs1), .slice u0a (codeC n0 xss0 xs1).length u0c, .slice u0b (codeP n0 xss0 xs1).length u0d] 52)).cell p0_0
  have y_p0_1 := ((Ext.refl w4).alloc (.cells #[.int .i64 (codeN n0 xss0 xs1), .slice u0a (codeC n0 xss0 xs1).length u0c, .slice u0b (codeP n0 xss0 xs1).length u0d] 52)).cell p0_1
  go_wp2_with fail
  refine (toGeneration_ok _ _ _ _ _ (r0_0.ext (E.alloc _)) hl0 hr0.out).mono ?_
  clear y_p0_0 y_p0_1
  rintro e w5 ⟨t5a, t5c, rfl, t5o, e5⟩
  have z5 := e5.size_le
  simp at z5
  replace p0_0 := (((Ext.refl w4).alloc _).trans e5).cell p0_0
  replace p0_1 := (((Ext.refl w4).alloc _).trans e5).cell p0_1
  replace u0o := u0o.ext (((Ext.refl w4).alloc _).trans e5)
  have w0_0 := e5.cell (p := ⟨w4.heap.size, 0, none⟩) (v := .int .i64 (codeN n0 xss0 xs1)) (by simp)
  have w0_1 := e5.cell (p := ⟨w4.heap.size, 1, none⟩) (v := .slice u0a (codeC n0 xss0 xs1).length u0c) (by simp)
  have w0_2 := e5.cell (p := ⟨w4.heap.size, 2, none⟩) (v := .slice u0b (codeP n0 xss0 xs1).length u0d) (by simp)
  replace E := (E.alloc _).trans e5
  clear e5
  replace t5o := t5o.mono (C := w4.heap.size + 1) (C2 := w5.heap.size) (by simp) (Nat.le_refl _)
  have y_p0_0 := ((Ext.refl w5).alloc (.cells #[.int .i64 n0, .slice t5a xss0.length t5c] 27)).cell p0_0
  have y_p0_1 := ((Ext.refl w5).alloc (.cells #[.int .i64 n0, .slice t5a xss0.length t5c] 27)).cell p0_1
  have y_w0_0 := ((Ext.refl w5).alloc (.cells #[.int .i64 n0, .slice t5a xss0.length t5c] 27)).cell w0_0
  have y_w0_1 := ((Ext.refl w5).alloc (.cells #[.int .i64 n0, .slice t5a xss0.length t5c] 27)).cell w0_1
  have y_w0_2 := ((Ext.refl w5).alloc (.cells #[.int .i64 n0, .slice t5a xss0.length t5c] 27)).cell w0_2
  go_wp2_with fail
  refine (toIntS_ok _ _ _ _ (r1_0.ext (E.alloc _)) hl1).mono ?_
  clear y_p0_0 y_p0_1 y_w0_0 y_w0_1 y_w0_2
  rintro e w6 ⟨t6a, t6c, rfl, t6o, e6⟩
  have z6 := e6.size_le
  simp at z6
  replace p0_0 := (((Ext.refl w5).alloc _).trans e6).cell p0_0
  replace p0_1 := (((Ext.refl w5).alloc _).trans e6).cell p0_1
  replace w0_0 := (((Ext.refl w5).alloc _).trans e6).cell w0_0
  replace w0_1 := (((Ext.refl w5).alloc _).trans e6).cell w0_1
  replace w0_2 := (((Ext.refl w5).alloc _).trans e6).cell w0_2
  replace u0o := u0o.ext (((Ext.refl w5).alloc _).trans e6)
  replace t5o := t5o.ext (((Ext.refl w5).alloc _).trans e6)
  have x0_0 := e6.cell (p := ⟨w5.heap.size, 0, none⟩) (v := .int .i64 n0) (by simp)
  have x0_1 := e6.cell (p := ⟨w5.heap.size, 1, none⟩) (v := .slice t5a xss0.length t5c) (by simp)
  replace E := (E.alloc _).trans e6
  clear e6
  replace t6o := OI.of t6o
  replace t6o := t6o.mono (C := w5.heap.size + 1) (C2 := w6.heap.size) (by simp) (Nat.le_refl _)
  go_wp2_with fail
  refine (implCodePacket_ok _ _ _ _ _ _ _ _ (t5o.reads) (t6o.vals) hl0 hr0.out hl1).mono ?_
  rintro e w7 ⟨u1a, u1c, u1b, u1d, rfl, u1o, u1p, u1x, e7⟩
  have z7 := e7.size_le
  replace p0_0 := e7.cell p0_0
  replace p0_1 := e7.cell p0_1
  replace w0_0 := e7.cell w0_0
  replace w0_1 := e7.cell w0_1
  replace w0_2 := e7.cell w0_2
  replace x0_0 := e7.cell x0_0
  replace x0_1 := e7.cell x0_1
  replace u0o := u0o.ext e7
  replace t5o := t5o.ext e7
  replace t6o := t6o.ext e7
  replace E := E.trans e7
  clear e7
  replace u1o := OPk.of u1o u1p u1x
  have qself := eqPk_self (codeN n0 xss0 xs1) (codeC n0 xss0 xs1) (codeP n0 xss0 xs1)
  have qflag : ((codeOk n0 xss0 xs1) != (codeOk n0 xss0 xs1)) = false := by simp
  have y_p0_0 := ((Ext.refl w7).alloc (.cells #[.int .i64 (codeN n0 xss0 xs1), .slice u1a (codeC n0 xss0 xs1).length u1c, .slice u1b (codeP n0 xss0 xs1).length u1d] 52)).cell p0_0
  have y_p0_1 := ((Ext.refl w7).alloc (.cells #[.int .i64 (codeN n0 xss0 xs1), .slice u1a (codeC n0 xss0 xs1).length u1c, .slice u1b (codeP n0 xss0 xs1).length u1d] 52)).cell p0_1
  have y_w0_0 := ((Ext.refl w7).alloc (.cells #[.int .i64 (codeN n0 xss0 xs1), .slice u1a (codeC n0 xss0 xs1).length u1c, .slice u1b (codeP n0 xss0 xs1).length u1d] 52)).cell w0_0
  have y_w0_1 := ((Ext.refl w7).alloc (.cells #[.int .i64 (codeN n0 xss0 xs1), .slice u1a (codeC n0 xss0 xs1).length u1c, .slice u1b (codeP n0 xss0 xs1).length u1d] 52)).cell w0_1
  have y_w0_2 := ((Ext.refl w7).alloc (.cells #[.int .i64 (codeN n0 xss0 xs1), .slice u1a (codeC n0 xss0 xs1).length u1c, .slice u1b (codeP n0 xss0 xs1).length u1d] 52)).cell w0_2
  have y_x0_0 := ((Ext.refl w7).alloc (.cells #[.int .i64 (codeN n0 xss0 xs1), .slice u1a (codeC n0 xss0 xs1).length u1c, .slice u1b (codeP n0 xss0 xs1).length u1d] 52)).cell x0_0
  have y_x0_1 := ((Ext.refl w7).alloc (.cells #[.int .i64 (codeN n0 xss0 xs1), .slice u1a (codeC n0 xss0 xs1).length u1c, .slice u1b (codeP n0 xss0 xs1).length u1d] 52)).cell x0_1
  go_wp2_with fail
  refine (eqCodedPacket_ok _ _ _ _ _ _ _ _ _ _ _ _ _ _ _ ((u1o.one).ext ((Ext.refl _).alloc _)) ((u1o.two).ext ((Ext.refl _).alloc _)) ((u0o.one).ext ((Ext.refl _).alloc _)) ((u0o.two).ext ((Ext.refl _).alloc _)) hres1 hres2).mono ?_
  clear y_p0_0 y_p0_1 y_w0_0 y_w0_1 y_w0_2 y_x0_0 y_x0_1
  rintro e w8 ⟨rfl, e8⟩
  have z8 := e8.size_le
  simp at z8
  replace p0_0 := (((Ext.refl w7).alloc _).trans e8).cell p0_0
  replace p0_1 := (((Ext.refl w7).alloc _).trans e8).cell p0_1
  replace w0_0 := (((Ext.refl w7).alloc _).trans e8).cell w0_0
  replace w0_1 := (((Ext.refl w7).alloc _).trans e8).cell w0_1
  replace w0_2 := (((Ext.refl w7).alloc _).trans e8).cell w0_2
  replace x0_0 := (((Ext.refl w7).alloc _).trans e8).cell x0_0
  replace x0_1 := (((Ext.refl w7).alloc _).trans e8).cell x0_1
  replace u0o := u0o.ext (((Ext.refl w7).alloc _).trans e8)
  replace t5o := t5o.ext (((Ext.refl w7).alloc _).trans e8)
  replace t6o := t6o.ext (((Ext.refl w7).alloc _).trans e8)
  replace u1o := u1o.ext (((Ext.refl w7).alloc _).trans e8)
  have g0_0 := e8.cell (p := ⟨w7.heap.size, 0, none⟩) (v := .int .i64 (codeN n0 xss0 xs1)) (by simp)
  have g0_1 := e8.cell (p := ⟨w7.heap.size, 1, none⟩) (v := .slice u1a (codeC n0 xss0 xs1).length u1c) (by simp)
  have g0_2 := e8.cell (p := ⟨w7.heap.size, 2, none⟩) (v := .slice u1b (codeP n0 xss0 xs1).length u1d) (by simp)
  replace E := (E.alloc _).trans e8
  clear e8
  have qe0 := eqB_self n0 xss0
  go_wp2_with fail
  go_region_held3 (fun w' => w'.cell? ⟨w.heap.size, 0, none⟩ = some (.int .i64 n0) ∧ w'.cell? ⟨w.heap.size, 1, none⟩ = some (.slice a0 xss0.length c0) ∧ w'.cell? ⟨w4.heap.size, 0, none⟩ = some (.int .i64 (codeN n0 xss0 xs1)) ∧ w'.cell? ⟨w4.heap.size, 1, none⟩ = some (.slice u0a (codeC n0 xss0 xs1).length u0c) ∧ w'.cell? ⟨w4.heap.size, 2, none⟩ = some (.slice u0b (codeP n0 xss0 xs1).length u0d) ∧ w'.cell? ⟨w5.heap.size, 0, none⟩ = some (.int .i64 n0) ∧ w'.cell? ⟨w5.heap.size, 1, none⟩ = some (.slice t5a xss0.length t5c) ∧ w'.cell? ⟨w7.heap.size, 0, none⟩ = some (.int .i64 (codeN n0 xss0 xs1)) ∧ w'.cell? ⟨w7.heap.size, 1, none⟩ = some (.slice u1a (codeC n0 xss0 xs1).length u1c) ∧ w'.cell? ⟨w7.heap.size, 2, none⟩ = some (.slice u1b (codeP n0 xss0 xs1).length u1d))
    (first | go_keep | exact ⟨(e10).cell ((e9).cell (p0_0)), (e10).cell ((e9).cell (p0_1)), (e10).cell ((e9).cell (w0_0)), (e10).cell ((e9).cell (w0_1)), (e10).cell ((e9).cell (w0_2)), (e10).cell ((e9).cell (x0_0)), (e10).cell ((e9).cell (x0_1)), (e10).cell ((e9).cell (g0_0)), (e10).cell ((e9).cell (g0_1)), (e10).cell ((e9).cell (g0_2))⟩ | exact ⟨(e9).cell (p0_0), (e9).cell (p0_1), (e9).cell (w0_0), (e9).cell (w0_1), (e9).cell (w0_2), (e9).cell (x0_0), (e9).cell (x0_1), (e9).cell (g0_0), (e9).cell (g0_1), (e9).cell (g0_2)⟩)
    (first | (go_at_call 17; (with_reducible refine (toGeneration_ok _ _ _ _ _ (r0_0.ext (E.trans ((Ext.refl w8).drew))) hl0 hr0.out).mono ?_); rintro e w9 ⟨t9a, t9c, rfl, t9o, e9⟩) | (go_at_call 19; (with_reducible refine (eqGeneration_ok _ _ _ _ _ _ _ _ _ ((t5o.reads).ext (((Ext.refl w8).drew).trans e9)) (t9o.reads) hl0 hr0.out).mono ?_); rintro e w10 ⟨rfl, e10⟩))
  have z9 := (((Ext.refl w8).drew.trans e9)).size_le
  have z10 := (e10).size_le
  replace p0_0 := (e10).cell ((e9).cell (p0_0))
  replace p0_1 := (e10).cell ((e9).cell (p0_1))
  replace w0_0 := (e10).cell ((e9).cell (w0_0))
  replace w0_1 := (e10).cell ((e9).cell (w0_1))
  replace w0_2 := (e10).cell ((e9).cell (w0_2))
  replace x0_0 := (e10).cell ((e9).cell (x0_0))
  replace x0_1 := (e10).cell ((e9).cell (x0_1))
  replace g0_0 := (e10).cell ((e9).cell (g0_0))
  replace g0_1 := (e10).cell ((e9).cell (g0_1))
  replace g0_2 := (e10).cell ((e9).cell (g0_2))
  replace u0o := u0o.ext ((((Ext.refl w8).drew).trans e9).trans e10)
  replace t5o := t5o.ext ((((Ext.refl w8).drew).trans e9).trans e10)
  replace t6o := t6o.ext ((((Ext.refl w8).drew).trans e9).trans e10)
  replace u1o := u1o.ext ((((Ext.refl w8).drew).trans e9).trans e10)
  replace E := E.trans ((((Ext.refl w8).drew).trans e9).trans e10)
  go_wp2_with fail
  refine (toIntS_ok _ _ _ _ (r1_0.ext (E)) hl1).mono ?_
  rintro e w11 ⟨t11a, t11c, rfl, t11o, e11⟩
  have z11 := e11.size_le
  replace p0_0 := e11.cell p0_0
  replace p0_1 := e11.cell p0_1
  replace w0_0 := e11.cell w0_0
  replace w0_1 := e11.cell w0_1
  replace w0_2 := e11.cell w0_2
  replace x0_0 := e11.cell x0_0
  replace x0_1 := e11.cell x0_1
  replace g0_0 := e11.cell g0_0
  replace g0_1 := e11.cell g0_1
  replace g0_2 := e11.cell g0_2
  replace u0o := u0o.ext e11
  replace t5o := t5o.ext e11
  replace t6o := t6o.ext e11
  replace u1o := u1o.ext e11
  replace E := E.trans e11
  clear e11
  replace t11o := OI.of t11o
  go_wp2_with fail
  refine (eqIntS_ok _ _ _ _ _ _ _ (t6o.vals) (t11o.vals) (by omega)).mono ?_
  rintro e w12 ⟨rfl, e12⟩
  replace e12 := Dr.ext e12
  have z12 := e12.size_le
  replace p0_0 := e12.cell p0_0
  replace p0_1 := e12.cell p0_1
  replace w0_0 := e12.cell w0_0
  replace w0_1 := e12.cell w0_1
  replace w0_2 := e12.cell w0_2
  replace x0_0 := e12.cell x0_0
  replace x0_1 := e12.cell x0_1
  replace g0_0 := e12.cell g0_0
  replace g0_1 := e12.cell g0_1
  replace g0_2 := e12.cell g0_2
  replace u0o := u0o.ext e12
  replace t5o := t5o.ext e12
  replace t6o := t6o.ext e12
  replace u1o := u1o.ext e12
  replace E := E.trans e12
  clear e12
  go_wp2_with fail
  refine (markGeneration_ok _ _ _ _ _ _ _ _ t5o (by omega) (by omega) ht0 (by omega) (by omega)).mono ?_
  rintro e w13 ⟨rfl, t5o', s13⟩
  have z13 := s13.size
  replace p0_0 := s13.cell p0_0 (by show w.heap.size < _ ∨ _ ≤ w.heap.size; omega)
  replace p0_1 := s13.cell p0_1 (by show w.heap.size < _ ∨ _ ≤ w.heap.size; omega)
  replace w0_0 := s13.cell w0_0 (by show w4.heap.size < _ ∨ _ ≤ w4.heap.size; omega)
  replace w0_1 := s13.cell w0_1 (by show w4.heap.size < _ ∨ _ ≤ w4.heap.size; omega)
  replace w0_2 := s13.cell w0_2 (by show w4.heap.size < _ ∨ _ ≤ w4.heap.size; omega)
  replace x0_0 := s13.cell x0_0 (by show w5.heap.size < _ ∨ _ ≤ w5.heap.size; omega)
  replace x0_1 := s13.cell x0_1 (by show w5.heap.size < _ ∨ _ ≤ w5.heap.size; omega)
  replace g0_0 := s13.cell g0_0 (by show w7.heap.size < _ ∨ _ ≤ w7.heap.size; omega)
  replace g0_1 := s13.cell g0_1 (by show w7.heap.size < _ ∨ _ ≤ w7.heap.size; omega)
  replace g0_2 := s13.cell g0_2 (by show w7.heap.size < _ ∨ _ ≤ w7.heap.size; omega)
  replace u0o := u0o.span s13 (by omega)
  replace t6o := t6o.span s13 (by omega)
  replace u1o := u1o.span s13 (by omega)
  replace E := Span.ext E s13 (by omega)
  clear s13 t5o
  have t5o := t5o'
  clear t5o'
  go_wp2_with fail
  refine (markIntS_ok _ _ _ _ _ _ _ t6o (by omega) (by omega) (by omega)).mono ?_
  rintro e w14 ⟨rfl, t6o', s14⟩
  have z14 := s14.size
  replace p0_0 := s14.cell p0_0 (by show w.heap.size < _ ∨ _ ≤ w.heap.size; omega)
  replace p0_1 := s14.cell p0_1 (by show w.heap.size < _ ∨ _ ≤ w.heap.size; omega)
  replace w0_0 := s14.cell w0_0 (by show w4.heap.size < _ ∨ _ ≤ w4.heap.size; omega)
  replace w0_1 := s14.cell w0_1 (by show w4.heap.size < _ ∨ _ ≤ w4.heap.size; omega)
  replace w0_2 := s14.cell w0_2 (by show w4.heap.size < _ ∨ _ ≤ w4.heap.size; omega)
  replace x0_0 := s14.cell x0_0 (by show w5.heap.size < _ ∨ _ ≤ w5.heap.size; omega)
  replace x0_1 := s14.cell x0_1 (by show w5.heap.size < _ ∨ _ ≤ w5.heap.size; omega)
  replace g0_0 := s14.cell g0_0 (by show w7.heap.size < _ ∨ _ ≤ w7.heap.size; omega)
  replace g0_1 := s14.cell g0_1 (by show w7.heap.size < _ ∨ _ ≤ w7.heap.size; omega)
  replace g0_2 := s14.cell g0_2 (by show w7.heap.size < _ ∨ _ ≤ w7.heap.size; omega)
  replace u0o := u0o.span s14 (by omega)
  replace u1o := u1o.span s14 (by omega)
  replace E := Span.ext E s14 (by omega)
  clear s14 t6o
  have t6o := t6o'
  clear t6o'
  go_wp2_with fail
  refine (eqCodedPacket_ok _ _ _ _ _ _ _ _ _ _ _ _ _ _ _ (u1o.one) (u1o.two) (u0o.one) (u0o.two) hres1 hres2).mono ?_
  rintro e w15 ⟨rfl, e15⟩
  have z15 := e15.size_le
  replace p0_0 := e15.cell p0_0
  replace p0_1 := e15.cell p0_1
  replace w0_0 := e15.cell w0_0
  replace w0_1 := e15.cell w0_1
  replace w0_2 := e15.cell w0_2
  replace x0_0 := e15.cell x0_0
  replace x0_1 := e15.cell x0_1
  replace g0_0 := e15.cell g0_0
  replace g0_1 := e15.cell g0_1
  replace g0_2 := e15.cell g0_2
  replace u0o := u0o.ext e15
  replace u1o := u1o.ext e15
  replace E := E.trans e15
  clear e15
  go_wp2_with fail
  refine (markCodedPacket_ok _ _ _ _ _ _ _ _ _ _ _ u1o (by omega) (by omega) (by omega) (by omega) (by omega)).mono ?_
  rintro e w16 ⟨rfl, u1o', s16⟩
  have z16 := s16.size
  replace p0_0 := s16.cell p0_0 (by show w.heap.size < _ ∨ _ ≤ w.heap.size; omega)
  replace p0_1 := s16.cell p0_1 (by show w.heap.size < _ ∨ _ ≤ w.heap.size; omega)
  replace w0_0 := s16.cell w0_0 (by show w4.heap.size < _ ∨ _ ≤ w4.heap.size; omega)
  replace w0_1 := s16.cell w0_1 (by show w4.heap.size < _ ∨ _ ≤ w4.heap.size; omega)
  replace w0_2 := s16.cell w0_2 (by show w4.heap.size < _ ∨ _ ≤ w4.heap.size; omega)
  replace x0_0 := s16.cell x0_0 (by show w5.heap.size < _ ∨ _ ≤ w5.heap.size; omega)
  replace x0_1 := s16.cell x0_1 (by show w5.heap.size < _ ∨ _ ≤ w5.heap.size; omega)
  replace g0_0 := s16.cell g0_0 (by show w7.heap.size < _ ∨ _ ≤ w7.heap.size; omega)
  replace g0_1 := s16.cell g0_1 (by show w7.heap.size < _ ∨ _ ≤ w7.heap.size; omega)
  replace g0_2 := s16.cell g0_2 (by show w7.heap.size < _ ∨ _ ≤ w7.heap.size; omega)
  replace u0o := u0o.span s16 (by omega)
  replace E := Span.ext E s16 (by omega)
  clear s16 u1o
  have u1o := u1o'
  clear u1o'
  go_wp2_with fail
  refine (heldCodedPacket_ok _ _ _ _ _ _ _ _ _ (u1o.one) (u1o.two) (by omega) (by omega) (by omega) (by omega)).mono ?_
  rintro e w17 ⟨rfl, e17⟩
  have z17 := e17.size_le
  replace p0_0 := e17.cell p0_0
  replace p0_1 := e17.cell p0_1
  replace w0_0 := e17.cell w0_0
  replace w0_1 := e17.cell w0_1
  replace w0_2 := e17.cell w0_2
  replace x0_0 := e17.cell x0_0
  replace x0_1 := e17.cell x0_1
  replace g0_0 := e17.cell g0_0
  replace g0_1 := e17.cell g0_1
  replace g0_2 := e17.cell g0_2
  replace u0o := u0o.ext e17
  replace u1o := u1o.ext e17
  replace E := E.trans e17
  clear e17
  go_wp2_with fail
  refine (toGeneration_ok _ _ _ _ _ (r0_0.ext (E)) hl0 hr0.out).mono ?_
  rintro e w18 ⟨t18a, t18c, rfl, t18o, e18⟩
  have z18 := e18.size_le
  replace p0_0 := e18.cell p0_0
  replace p0_1 := e18.cell p0_1
  replace w0_0 := e18.cell w0_0
  replace w0_1 := e18.cell w0_1
  replace w0_2 := e18.cell w0_2
  replace x0_0 := e18.cell x0_0
  replace x0_1 := e18.cell x0_1
  replace g0_0 := e18.cell g0_0
  replace g0_1 := e18.cell g0_1
  replace g0_2 := e18.cell g0_2
  replace u0o := u0o.ext e18
  replace u1o := u1o.ext e18
  replace E := E.trans e18
  clear e18
  go_wp2_with fail
  refine (toIntS_ok _ _ _ _ (r1_0.ext (E)) hl1).mono ?_
  rintro e w19 ⟨t19a, t19c, rfl, t19o, e19⟩
  have z19 := e19.size_le
  replace p0_0 := e19.cell p0_0
  replace p0_1 := e19.cell p0_1
  replace w0_0 := e19.cell w0_0
  replace w0_1 := e19.cell w0_1
  replace w0_2 := e19.cell w0_2
  replace x0_0 := e19.cell x0_0
  replace x0_1 := e19.cell x0_1
  replace g0_0 := e19.cell g0_0
  replace g0_1 := e19.cell g0_1
  replace g0_2 := e19.cell g0_2
  replace u0o := u0o.ext e19
  replace u1o := u1o.ext e19
  replace t18o := t18o.ext e19
  replace E := E.trans e19
  clear e19
  replace t19o := OI.of t19o
  go_wp2_with fail
  refine (implCodePacket_ok _ _ _ _ _ _ _ _ (t18o.reads) (t19o.vals) hl0 hr0.out hl1).mono ?_
  rintro e w20 ⟨u2a, u2c, u2b, u2d, rfl, u2o, u2p, u2x, e20⟩
  have z20 := e20.size_le
  replace p0_0 := e20.cell p0_0
  replace p0_1 := e20.cell p0_1
  replace w0_0 := e20.cell w0_0
  replace w0_1 := e20.cell w0_1
  replace w0_2 := e20.cell w0_2
  replace x0_0 := e20.cell x0_0
  replace x0_1 := e20.cell x0_1
  replace g0_0 := e20.cell g0_0
  replace g0_1 := e20.cell g0_1
  replace g0_2 := e20.cell g0_2
  replace u0o := u0o.ext e20
  replace u1o := u1o.ext e20
  replace t18o := t18o.ext e20
  replace t19o := t19o.ext e20
  replace E := E.trans e20
  clear e20
  replace u2o := OPk.of u2o u2p u2x
  have y_p0_0 := ((Ext.refl w20).alloc (.cells #[.int .i64 (codeN n0 xss0 xs1), .slice u2a (codeC n0 xss0 xs1).length u2c, .slice u2b (codeP n0 xss0 xs1).length u2d] 52)).cell p0_0
  have y_p0_1 := ((Ext.refl w20).alloc (.cells #[.int .i64 (codeN n0 xss0 xs1), .slice u2a (codeC n0 xss0 xs1).length u2c, .slice u2b (codeP n0 xss0 xs1).length u2d] 52)).cell p0_1
  have y_w0_0 := ((Ext.refl w20).alloc (.cells #[.int .i64 (codeN n0 xss0 xs1), .slice u2a (codeC n0 xss0 xs1).length u2c, .slice u2b (codeP n0 xss0 xs1).length u2d] 52)).cell w0_0
  have y_w0_1 := ((Ext.refl w20).alloc (.cells #[.int .i64 (codeN n0 xss0 xs1), .slice u2a (codeC n0 xss0 xs1).length u2c, .slice u2b (codeP n0 xss0 xs1).length u2d] 52)).cell w0_1
  have y_w0_2 := ((Ext.refl w20).alloc (.cells #[.int .i64 (codeN n0 xss0 xs1), .slice u2a (codeC n0 xss0 xs1).length u2c, .slice u2b (codeP n0 xss0 xs1).length u2d] 52)).cell w0_2
  have y_x0_0 := ((Ext.refl w20).alloc (.cells #[.int .i64 (codeN n0 xss0 xs1), .slice u2a (codeC n0 xss0 xs1).length u2c, .slice u2b (codeP n0 xss0 xs1).length u2d] 52)).cell x0_0
  have y_x0_1 := ((Ext.refl w20).alloc (.cells #[.int .i64 (codeN n0 xss0 xs1), .slice u2a (codeC n0 xss0 xs1).length u2c, .slice u2b (codeP n0 xss0 xs1).length u2d] 52)).cell x0_1
  have y_g0_0 := ((Ext.refl w20).alloc (.cells #[.int .i64 (codeN n0 xss0 xs1), .slice u2a (codeC n0 xss0 xs1).length u2c, .slice u2b (codeP n0 xss0 xs1).length u2d] 52)).cell g0_0
  have y_g0_1 := ((Ext.refl w20).alloc (.cells #[.int .i64 (codeN n0 xss0 xs1), .slice u2a (codeC n0 xss0 xs1).length u2c, .slice u2b (codeP n0 xss0 xs1).length u2d] 52)).cell g0_1
  have y_g0_2 := ((Ext.refl w20).alloc (.cells #[.int .i64 (codeN n0 xss0 xs1), .slice u2a (codeC n0 xss0 xs1).length u2c, .slice u2b (codeP n0 xss0 xs1).length u2d] 52)).cell g0_2
  go_wp2_with fail
  refine (eqCodedPacket_ok _ _ _ _ _ _ _ _ _ _ _ _ _ _ _ ((u2o.one).ext ((Ext.refl _).alloc _)) ((u2o.two).ext ((Ext.refl _).alloc _)) ((u0o.one).ext ((Ext.refl _).alloc _)) ((u0o.two).ext ((Ext.refl _).alloc _)) hres1 hres2).mono ?_
  clear y_p0_0 y_p0_1 y_w0_0 y_w0_1 y_w0_2 y_x0_0 y_x0_1 y_g0_0 y_g0_1 y_g0_2
  rintro e w21 ⟨rfl, e21⟩
  have z21 := e21.size_le
  simp at z21
  replace p0_0 := (((Ext.refl w20).alloc _).trans e21).cell p0_0
  replace p0_1 := (((Ext.refl w20).alloc _).trans e21).cell p0_1
  replace w0_0 := (((Ext.refl w20).alloc _).trans e21).cell w0_0
  replace w0_1 := (((Ext.refl w20).alloc _).trans e21).cell w0_1
  replace w0_2 := (((Ext.refl w20).alloc _).trans e21).cell w0_2
  replace x0_0 := (((Ext.refl w20).alloc _).trans e21).cell x0_0
  replace x0_1 := (((Ext.refl w20).alloc _).trans e21).cell x0_1
  replace g0_0 := (((Ext.refl w20).alloc _).trans e21).cell g0_0
  replace g0_1 := (((Ext.refl w20).alloc _).trans e21).cell g0_1
  replace g0_2 := (((Ext.refl w20).alloc _).trans e21).cell g0_2
  replace u0o := u0o.ext (((Ext.refl w20).alloc _).trans e21)
  replace u1o := u1o.ext (((Ext.refl w20).alloc _).trans e21)
  replace u2o := u2o.ext (((Ext.refl w20).alloc _).trans e21)
  have h0_0 := e21.cell (p := ⟨w20.heap.size, 0, none⟩) (v := .int .i64 (codeN n0 xss0 xs1)) (by simp)
  have h0_1 := e21.cell (p := ⟨w20.heap.size, 1, none⟩) (v := .slice u2a (codeC n0 xss0 xs1).length u2c) (by simp)
  have h0_2 := e21.cell (p := ⟨w20.heap.size, 2, none⟩) (v := .slice u2b (codeP n0 xss0 xs1).length u2d) (by simp)
  replace E := (E.alloc _).trans e21
  clear e21
  go_wp2_with fail
  refine (heldCodedPacket_ok _ _ _ _ _ _ _ _ _ (u1o.one) (u1o.two) (by omega) (by omega) (by omega) (by omega)).mono ?_
  rintro e w22 ⟨rfl, e22⟩
  have z22 := e22.size_le
  replace p0_0 := e22.cell p0_0
  replace p0_1 := e22.cell p0_1
  replace w0_0 := e22.cell w0_0
  replace w0_1 := e22.cell w0_1
  replace w0_2 := e22.cell w0_2
  replace x0_0 := e22.cell x0_0
  replace x0_1 := e22.cell x0_1
  replace g0_0 := e22.cell g0_0
  replace g0_1 := e22.cell g0_1
  replace g0_2 := e22.cell g0_2
  replace h0_0 := e22.cell h0_0
  replace h0_1 := e22.cell h0_1
  replace h0_2 := e22.cell h0_2
  replace u0o := u0o.ext e22
  replace u1o := u1o.ext e22
  replace u2o := u2o.ext e22
  replace E := E.trans e22
  clear e22
  go_wp2_with fail
  go_ret
  exact ⟨rfl, E⟩

end Go.Proofs.Ythhojflpaebloaa
