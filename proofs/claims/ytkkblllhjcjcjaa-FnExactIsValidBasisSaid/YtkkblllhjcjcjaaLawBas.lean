/- The laws of IsValidBasis, Dimension, ContainsVector, ReduceVector, IsSubspace. -/
import Derived.Test.YtkkblllhjcjcjaaBas2
import Derived.Test.YtkkblllhjcjcjaaLawTot
namespace Go.Proofs.Ytkkblllhjcjcjaa
open Go.RowKit
set_option linter.unusedVariables false
set_option maxRecDepth 20000

theorem rvB_len (n : Int) (m : List (List Int)) (v : List Int) : (rvB n m v).length ≤ 40 := by
  unfold rvB
  split
  · rename_i h
    obtain ⟨h1, h2, h3, h4, _⟩ := fitsB_parts h
    rw [(redV_ok h1.1 h2 h3).2]
    exact h4
  · simp

set_option maxHeartbeats 4000000 in
set_option maxRecDepth 100000 in
theorem lawIsValidBasis (n0 : Int) (a0 : Option Addr) (c0 : Nat) (xss0 : List (List Int)) (w : World) (r0_0 : MatR w a0 xss0) (m0_0 : xss0.length ≤ maxLen) (m0_1 : ∀ xs ∈ xss0, xs.length ≤ maxLen) :
    Calls Try.prog 4 #[bsV n0 a0 c0 xss0] w (Gives w (.bool true)) := by
  replace m0_1 := Lib.hid m0_1
  by_cases hs0 : szM xss0 1048576 < 0
  · skip
    go_enter Try.func4, Try.ntmps4
    go_wp2_with fail
    refine (szBasis_ok _ _ _ _ _ _ (r0_0.ext ((Ext.refl w).alloc _)) m0_0 m0_1.out (by omega) (by omega)).mono ?_
    rintro e w1 ⟨rfl, e1⟩
    have E := ((Ext.refl w).alloc _).trans e1
    have z0 := e1.size_le
    simp at z0
    have p0_0 := e1.cell (p := ⟨w.heap.size, 0, none⟩) (v := .int .i64 n0) (by simp)
    have p0_1 := e1.cell (p := ⟨w.heap.size, 1, none⟩) (v := .slice a0 xss0.length c0) (by simp)
    go_wp2_with fail
    go_ret
    exact ⟨rfl, E⟩
  obtain ⟨hle0, heq0⟩ := szM_le (Int.not_lt.1 hs0)
  have hl0 : xss0.length ≤ 1048576 := by omega
  have hr0 : Hid (∀ xs ∈ xss0, xs.length ≤ 1048576) := fun xs hx => by have := rows_le hx; omega
  have ht0 : tot xss0 ≤ 1099511627776 := by omega
  have hu0 : tot xss0 ≤ 1048576 := by omega
  have hf0 : szM xss0 1048576 ≤ 1048576 := by omega
  have hg0 : 0 ≤ szM xss0 1048576 := by omega
  replace heq0 := Lib.hid heq0
  go_enter Try.func4, Try.ntmps4
  go_wp2_with fail
  refine (szBasis_ok _ _ _ _ _ _ (r0_0.ext ((Ext.refl w).alloc _)) m0_0 m0_1.out (by omega) (by omega)).mono ?_
  rintro e w1 ⟨rfl, e1⟩
  have E := ((Ext.refl w).alloc _).trans e1
  have z0 := e1.size_le
  simp at z0
  have p0_0 := e1.cell (p := ⟨w.heap.size, 0, none⟩) (v := .int .i64 n0) (by simp)
  have p0_1 := e1.cell (p := ⟨w.heap.size, 1, none⟩) (v := .slice a0 xss0.length c0) (by simp)
  go_wp2_with fail
  refine (toBasis_ok _ _ _ _ _ (r0_0.ext (E)) hl0 hr0.out).mono ?_
  rintro e w2 ⟨t2a, t2c, rfl, t2o, e2⟩
  have z2 := e2.size_le
  replace p0_0 := e2.cell p0_0
  replace p0_1 := e2.cell p0_1
  replace E := E.trans e2
  clear e2
  go_wp2_with fail
  refine (specIsValidBasis_ok _ _ _ _ _ (t2o.reads) hl0 hr0.out).mono ?_
  rintro e w3 ⟨rfl, e3⟩
  have z3 := e3.size_le
  replace p0_0 := e3.cell p0_0
  replace p0_1 := e3.cell p0_1
  replace t2o := t2o.ext e3
  replace E := E.trans e3
  clear e3
  go_wp2_with fail
  refine (toBasis_ok _ _ _ _ _ (r0_0.ext (E)) hl0 hr0.out).mono ?_
  rintro e w4 ⟨t4a, t4c, rfl, t4o, e4⟩
  have z4 := e4.size_le
  replace p0_0 := e4.cell p0_0
  replace p0_1 := e4.cell p0_1
  replace E := E.trans e4
  clear e4
  have y_p0_0 := ((Ext.refl w4).alloc (.cells #[.int .i64 n0, .slice t4a xss0.length t4c] 31)).cell p0_0
  have y_p0_1 := ((Ext.refl w4).alloc (.cells #[.int .i64 n0, .slice t4a xss0.length t4c] 31)).cell p0_1
  go_wp2_with fail
  refine (implIsValidBasis_ok _ _ _ _ _ ((t4o.reads).ext ((Ext.refl _).alloc _)) hl0 hr0.out).mono ?_
  clear y_p0_0 y_p0_1
  rintro e w5 ⟨rfl, e5⟩
  have z5 := e5.size_le
  simp at z5
  replace p0_0 := (((Ext.refl w4).alloc _).trans e5).cell p0_0
  replace p0_1 := (((Ext.refl w4).alloc _).trans e5).cell p0_1
  replace t4o := t4o.ext (((Ext.refl w4).alloc _).trans e5)
  have x0_0 := e5.cell (p := ⟨w4.heap.size, 0, none⟩) (v := .int .i64 n0) (by simp)
  have x0_1 := e5.cell (p := ⟨w4.heap.size, 1, none⟩) (v := .slice t4a xss0.length t4c) (by simp)
  replace E := (E.alloc _).trans e5
  clear e5
  have q0 : ((validB n0 xss0) != (validB n0 xss0)) = false := by simp
  have qe0 := eqB_self n0 xss0
  go_wp2_with fail
  go_region_held3 (fun w' => w'.cell? ⟨w.heap.size, 0, none⟩ = some (.int .i64 n0) ∧ w'.cell? ⟨w.heap.size, 1, none⟩ = some (.slice a0 xss0.length c0) ∧ w'.cell? ⟨w4.heap.size, 0, none⟩ = some (.int .i64 n0) ∧ w'.cell? ⟨w4.heap.size, 1, none⟩ = some (.slice t4a xss0.length t4c))
    (first | go_keep | exact ⟨(e7).cell ((e6).cell (p0_0)), (e7).cell ((e6).cell (p0_1)), (e7).cell ((e6).cell (x0_0)), (e7).cell ((e6).cell (x0_1))⟩ | exact ⟨(e6).cell (p0_0), (e6).cell (p0_1), (e6).cell (x0_0), (e6).cell (x0_1)⟩)
    (first | (go_at_call 22; (with_reducible refine (toBasis_ok _ _ _ _ _ (r0_0.ext (E.trans ((Ext.refl w5).drew))) hl0 hr0.out).mono ?_); rintro e w6 ⟨t6a, t6c, rfl, t6o, e6⟩) | (go_at_call 24; (with_reducible refine (eqBasis_ok _ _ _ _ _ _ _ _ _ ((t4o.reads).ext (((Ext.refl w5).drew).trans e6)) (t6o.reads) hl0 hr0.out).mono ?_); rintro e w7 ⟨rfl, e7⟩))
  have z6 := (((Ext.refl w5).drew.trans e6)).size_le
  have z7 := (e7).size_le
  replace p0_0 := (e7).cell ((e6).cell (p0_0))
  replace p0_1 := (e7).cell ((e6).cell (p0_1))
  replace x0_0 := (e7).cell ((e6).cell (x0_0))
  replace x0_1 := (e7).cell ((e6).cell (x0_1))
  replace t4o := t4o.ext ((((Ext.refl w5).drew).trans e6).trans e7)
  replace E := E.trans ((((Ext.refl w5).drew).trans e6).trans e7)
  go_wp2_with fail
  go_ret
  exact ⟨rfl, E⟩

set_option maxHeartbeats 4000000 in
set_option maxRecDepth 100000 in
theorem lawDimension (n0 : Int) (a0 : Option Addr) (c0 : Nat) (xss0 : List (List Int)) (w : World) (r0_0 : MatR w a0 xss0) (m0_0 : xss0.length ≤ maxLen) (m0_1 : ∀ xs ∈ xss0, xs.length ≤ maxLen) :
    Calls Try.prog 6 #[bsV n0 a0 c0 xss0] w (Gives w (.bool true)) := by
  replace m0_1 := Lib.hid m0_1
  by_cases hs0 : szM xss0 1048576 < 0
  · skip
    go_enter Try.func6, Try.ntmps6
    go_wp2_with fail
    refine (szBasis_ok _ _ _ _ _ _ (r0_0.ext ((Ext.refl w).alloc _)) m0_0 m0_1.out (by omega) (by omega)).mono ?_
    rintro e w1 ⟨rfl, e1⟩
    have E := ((Ext.refl w).alloc _).trans e1
    have z0 := e1.size_le
    simp at z0
    have p0_0 := e1.cell (p := ⟨w.heap.size, 0, none⟩) (v := .int .i64 n0) (by simp)
    have p0_1 := e1.cell (p := ⟨w.heap.size, 1, none⟩) (v := .slice a0 xss0.length c0) (by simp)
    go_wp2_with fail
    go_ret
    exact ⟨rfl, E⟩
  obtain ⟨hle0, heq0⟩ := szM_le (Int.not_lt.1 hs0)
  have hl0 : xss0.length ≤ 1048576 := by omega
  have hr0 : Hid (∀ xs ∈ xss0, xs.length ≤ 1048576) := fun xs hx => by have := rows_le hx; omega
  have ht0 : tot xss0 ≤ 1099511627776 := by omega
  have hu0 : tot xss0 ≤ 1048576 := by omega
  have hf0 : szM xss0 1048576 ≤ 1048576 := by omega
  have hg0 : 0 ≤ szM xss0 1048576 := by omega
  replace heq0 := Lib.hid heq0
  go_enter Try.func6, Try.ntmps6
  go_wp2_with fail
  refine (szBasis_ok _ _ _ _ _ _ (r0_0.ext ((Ext.refl w).alloc _)) m0_0 m0_1.out (by omega) (by omega)).mono ?_
  rintro e w1 ⟨rfl, e1⟩
  have E := ((Ext.refl w).alloc _).trans e1
  have z0 := e1.size_le
  simp at z0
  have p0_0 := e1.cell (p := ⟨w.heap.size, 0, none⟩) (v := .int .i64 n0) (by simp)
  have p0_1 := e1.cell (p := ⟨w.heap.size, 1, none⟩) (v := .slice a0 xss0.length c0) (by simp)
  go_wp2_with fail
  refine (toBasis_ok _ _ _ _ _ (r0_0.ext (E)) hl0 hr0.out).mono ?_
  rintro e w2 ⟨t2a, t2c, rfl, t2o, e2⟩
  have z2 := e2.size_le
  replace p0_0 := e2.cell p0_0
  replace p0_1 := e2.cell p0_1
  replace E := E.trans e2
  clear e2
  go_wp2_with fail
  refine (specDimension_ok _ _ _ _ _ (t2o.reads) hl0 hr0.out).mono ?_
  rintro e w3 ⟨rfl, e3⟩
  have z3 := e3.size_le
  replace p0_0 := e3.cell p0_0
  replace p0_1 := e3.cell p0_1
  replace t2o := t2o.ext e3
  replace E := E.trans e3
  clear e3
  go_wp2_with fail
  refine (toBasis_ok _ _ _ _ _ (r0_0.ext (E)) hl0 hr0.out).mono ?_
  rintro e w4 ⟨t4a, t4c, rfl, t4o, e4⟩
  have z4 := e4.size_le
  replace p0_0 := e4.cell p0_0
  replace p0_1 := e4.cell p0_1
  replace E := E.trans e4
  clear e4
  have y_p0_0 := ((Ext.refl w4).alloc (.cells #[.int .i64 n0, .slice t4a xss0.length t4c] 31)).cell p0_0
  have y_p0_1 := ((Ext.refl w4).alloc (.cells #[.int .i64 n0, .slice t4a xss0.length t4c] 31)).cell p0_1
  go_wp2_with fail
  refine (implDimension_ok _ _ _ _ _ ((t4o.reads).ext ((Ext.refl _).alloc _)) hl0 hr0.out).mono ?_
  clear y_p0_0 y_p0_1
  rintro e w5 ⟨rfl, e5⟩
  have z5 := e5.size_le
  simp at z5
  replace p0_0 := (((Ext.refl w4).alloc _).trans e5).cell p0_0
  replace p0_1 := (((Ext.refl w4).alloc _).trans e5).cell p0_1
  replace t4o := t4o.ext (((Ext.refl w4).alloc _).trans e5)
  have x0_0 := e5.cell (p := ⟨w4.heap.size, 0, none⟩) (v := .int .i64 n0) (by simp)
  have x0_1 := e5.cell (p := ⟨w4.heap.size, 1, none⟩) (v := .slice t4a xss0.length t4c) (by simp)
  replace E := (E.alloc _).trans e5
  clear e5
  have q0 : ((dimB n0 xss0) != (dimB n0 xss0)) = false := by simp
  have qe0 := eqB_self n0 xss0
  go_wp2_with fail
  go_region_held3 (fun w' => w'.cell? ⟨w.heap.size, 0, none⟩ = some (.int .i64 n0) ∧ w'.cell? ⟨w.heap.size, 1, none⟩ = some (.slice a0 xss0.length c0) ∧ w'.cell? ⟨w4.heap.size, 0, none⟩ = some (.int .i64 n0) ∧ w'.cell? ⟨w4.heap.size, 1, none⟩ = some (.slice t4a xss0.length t4c))
    (first | go_keep | exact ⟨(e7).cell ((e6).cell (p0_0)), (e7).cell ((e6).cell (p0_1)), (e7).cell ((e6).cell (x0_0)), (e7).cell ((e6).cell (x0_1))⟩ | exact ⟨(e6).cell (p0_0), (e6).cell (p0_1), (e6).cell (x0_0), (e6).cell (x0_1)⟩)
    (first | (go_at_call 22; (with_reducible refine (toBasis_ok _ _ _ _ _ (r0_0.ext (E.trans ((Ext.refl w5).drew))) hl0 hr0.out).mono ?_); rintro e w6 ⟨t6a, t6c, rfl, t6o, e6⟩) | (go_at_call 24; (with_reducible refine (eqBasis_ok _ _ _ _ _ _ _ _ _ ((t4o.reads).ext (((Ext.refl w5).drew).trans e6)) (t6o.reads) hl0 hr0.out).mono ?_); rintro e w7 ⟨rfl, e7⟩))
  have z6 := (((Ext.refl w5).drew.trans e6)).size_le
  have z7 := (e7).size_le
  replace p0_0 := (e7).cell ((e6).cell (p0_0))
  replace p0_1 := (e7).cell ((e6).cell (p0_1))
  replace x0_0 := (e7).cell ((e6).cell (x0_0))
  replace x0_1 := (e7).cell ((e6).cell (x0_1))
  replace t4o := t4o.ext ((((Ext.refl w5).drew).trans e6).trans e7)
  replace E := E.trans ((((Ext.refl w5).drew).trans e6).trans e7)
  go_wp2_with fail
  go_ret
  exact ⟨rfl, E⟩

set_option maxHeartbeats 4000000 in
set_option maxRecDepth 100000 in
theorem lawContainsVector (n0 : Int) (a0 : Option Addr) (c0 : Nat) (xss0 : List (List Int)) (a1 : Option Addr) (c1 : Nat) (xs1 : List Int) (w : World) (r0_0 : MatR w a0 xss0) (r1_0 : Vals w a1 (I xs1)) (m0_0 : xss0.length ≤ maxLen) (m0_1 : ∀ xs ∈ xss0, xs.length ≤ maxLen) (m1_0 : xs1.length ≤ maxLen) :
    Calls Try.prog 7 #[bsV n0 a0 c0 xss0, .slice a1 xs1.length c1] w (Gives w (.bool true)) := by
  replace m0_1 := Lib.hid m0_1
  by_cases hl1 : xs1.length ≤ 1048576
  rotate_left
  · have d1 : (1048576 : Int) < (xs1.length : Int) := by omega
    unfold maxLen at m1_0
    go_enter Try.func7, Try.ntmps7
    go_wp2_with fail
    go_ret
    exact ⟨rfl, (Ext.refl w).alloc _⟩
  have d1 : decide ((1048576 : Int) < (xs1.length : Int)) = false := by simp; omega
  by_cases hs0 : szM xss0 1048576 < 0
  · skip
    go_enter Try.func7, Try.ntmps7
    go_wp2_with fail
    refine (szBasis_ok _ _ _ _ _ _ (r0_0.ext ((Ext.refl w).alloc _)) m0_0 m0_1.out (by omega) (by omega)).mono ?_
    rintro e w1 ⟨rfl, e1⟩
    have E := ((Ext.refl w).alloc _).trans e1
    have z0 := e1.size_le
    simp at z0
    have p0_0 := e1.cell (p := ⟨w.heap.size, 0, none⟩) (v := .int .i64 n0) (by simp)
    have p0_1 := e1.cell (p := ⟨w.heap.size, 1, none⟩) (v := .slice a0 xss0.length c0) (by simp)
    go_wp2_with fail
    go_ret
    exact ⟨rfl, E⟩
  obtain ⟨hle0, heq0⟩ := szM_le (Int.not_lt.1 hs0)
  have hl0 : xss0.length ≤ 1048576 := by omega
  have hr0 : Hid (∀ xs ∈ xss0, xs.length ≤ 1048576) := fun xs hx => by have := rows_le hx; omega
  have ht0 : tot xss0 ≤ 1099511627776 := by omega
  have hu0 : tot xss0 ≤ 1048576 := by omega
  have hf0 : szM xss0 1048576 ≤ 1048576 := by omega
  have hg0 : 0 ≤ szM xss0 1048576 := by omega
  replace heq0 := Lib.hid heq0
  go_enter Try.func7, Try.ntmps7
  go_wp2_with fail
  refine (szBasis_ok _ _ _ _ _ _ (r0_0.ext ((Ext.refl w).alloc _)) m0_0 m0_1.out (by omega) (by omega)).mono ?_
  rintro e w1 ⟨rfl, e1⟩
  have E := ((Ext.refl w).alloc _).trans e1
  have z0 := e1.size_le
  simp at z0
  have p0_0 := e1.cell (p := ⟨w.heap.size, 0, none⟩) (v := .int .i64 n0) (by simp)
  have p0_1 := e1.cell (p := ⟨w.heap.size, 1, none⟩) (v := .slice a0 xss0.length c0) (by simp)
  go_wp2_with fail
  refine (toBasis_ok _ _ _ _ _ (r0_0.ext (E)) hl0 hr0.out).mono ?_
  rintro e w2 ⟨t2a, t2c, rfl, t2o, e2⟩
  have z2 := e2.size_le
  replace p0_0 := e2.cell p0_0
  replace p0_1 := e2.cell p0_1
  replace E := E.trans e2
  clear e2
  go_wp2_with fail
  refine (toIntS_ok _ _ _ _ (r1_0.ext (E)) hl1).mono ?_
  rintro e w3 ⟨t3a, t3c, rfl, t3o, e3⟩
  have z3 := e3.size_le
  replace p0_0 := e3.cell p0_0
  replace p0_1 := e3.cell p0_1
  replace t2o := t2o.ext e3
  replace E := E.trans e3
  clear e3
  replace t3o := OI.of t3o
  go_wp2_with fail
  refine (specContainsVector_ok _ _ _ _ _ _ _ _ (t2o.reads) (t3o.vals) hl0 hr0.out hl1).mono ?_
  rintro e w4 ⟨rfl, e4⟩
  have z4 := e4.size_le
  replace p0_0 := e4.cell p0_0
  replace p0_1 := e4.cell p0_1
  replace t2o := t2o.ext e4
  replace t3o := t3o.ext e4
  replace E := E.trans e4
  clear e4
  go_wp2_with fail
  refine (toBasis_ok _ _ _ _ _ (r0_0.ext (E)) hl0 hr0.out).mono ?_
  rintro e w5 ⟨t5a, t5c, rfl, t5o, e5⟩
  have z5 := e5.size_le
  replace p0_0 := e5.cell p0_0
  replace p0_1 := e5.cell p0_1
  replace E := E.trans e5
  clear e5
  have y_p0_0 := ((Ext.refl w5).alloc (.cells #[.int .i64 n0, .slice t5a xss0.length t5c] 31)).cell p0_0
  have y_p0_1 := ((Ext.refl w5).alloc (.cells #[.int .i64 n0, .slice t5a xss0.length t5c] 31)).cell p0_1
  go_wp2_with fail
  refine (toIntS_ok _ _ _ _ (r1_0.ext (E.alloc _)) hl1).mono ?_
  clear y_p0_0 y_p0_1
  rintro e w6 ⟨t6a, t6c, rfl, t6o, e6⟩
  have z6 := e6.size_le
  simp at z6
  replace p0_0 := (((Ext.refl w5).alloc _).trans e6).cell p0_0
  replace p0_1 := (((Ext.refl w5).alloc _).trans e6).cell p0_1
  replace t5o := t5o.ext (((Ext.refl w5).alloc _).trans e6)
  have x0_0 := e6.cell (p := ⟨w5.heap.size, 0, none⟩) (v := .int .i64 n0) (by simp)
  have x0_1 := e6.cell (p := ⟨w5.heap.size, 1, none⟩) (v := .slice t5a xss0.length t5c) (by simp)
  replace E := (E.alloc _).trans e6
  clear e6
  replace t6o := OI.of t6o
  replace t6o := t6o.mono (C := w5.heap.size + 1) (C2 := w6.heap.size) (by simp) (Nat.le_refl _)
  go_wp2_with fail
  refine (implContainsVector_ok _ _ _ _ _ _ _ _ (t5o.reads) (t6o.vals) hl0 hr0.out hl1).mono ?_
  rintro e w7 ⟨rfl, e7⟩
  have z7 := e7.size_le
  replace p0_0 := e7.cell p0_0
  replace p0_1 := e7.cell p0_1
  replace x0_0 := e7.cell x0_0
  replace x0_1 := e7.cell x0_1
  replace t5o := t5o.ext e7
  replace t6o := t6o.ext e7
  replace E := E.trans e7
  clear e7
  have q0 : ((cvB n0 xss0 xs1) != (cvB n0 xss0 xs1)) = false := by simp
  have qe0 := eqB_self n0 xss0
  go_wp2_with fail
  go_region_held3 (fun w' => w'.cell? ⟨w.heap.size, 0, none⟩ = some (.int .i64 n0) ∧ w'.cell? ⟨w.heap.size, 1, none⟩ = some (.slice a0 xss0.length c0) ∧ w'.cell? ⟨w5.heap.size, 0, none⟩ = some (.int .i64 n0) ∧ w'.cell? ⟨w5.heap.size, 1, none⟩ = some (.slice t5a xss0.length t5c))
    (first | go_keep | exact ⟨(e9).cell ((e8).cell (p0_0)), (e9).cell ((e8).cell (p0_1)), (e9).cell ((e8).cell (x0_0)), (e9).cell ((e8).cell (x0_1))⟩ | exact ⟨(e8).cell (p0_0), (e8).cell (p0_1), (e8).cell (x0_0), (e8).cell (x0_1)⟩)
    (first | (go_at_call 22; (with_reducible refine (toBasis_ok _ _ _ _ _ (r0_0.ext (E.trans ((Ext.refl w7).drew))) hl0 hr0.out).mono ?_); rintro e w8 ⟨t8a, t8c, rfl, t8o, e8⟩) | (go_at_call 24; (with_reducible refine (eqBasis_ok _ _ _ _ _ _ _ _ _ ((t5o.reads).ext (((Ext.refl w7).drew).trans e8)) (t8o.reads) hl0 hr0.out).mono ?_); rintro e w9 ⟨rfl, e9⟩))
  have z8 := (((Ext.refl w7).drew.trans e8)).size_le
  have z9 := (e9).size_le
  replace p0_0 := (e9).cell ((e8).cell (p0_0))
  replace p0_1 := (e9).cell ((e8).cell (p0_1))
  replace x0_0 := (e9).cell ((e8).cell (x0_0))
  replace x0_1 := (e9).cell ((e8).cell (x0_1))
  replace t5o := t5o.ext ((((Ext.refl w7).drew).trans e8).trans e9)
  replace t6o := t6o.ext ((((Ext.refl w7).drew).trans e8).trans e9)
  replace E := E.trans ((((Ext.refl w7).drew).trans e8).trans e9)
  go_wp2_with fail
  refine (toIntS_ok _ _ _ _ (r1_0.ext (E)) hl1).mono ?_
  rintro e w10 ⟨t10a, t10c, rfl, t10o, e10⟩
  have z10 := e10.size_le
  replace p0_0 := e10.cell p0_0
  replace p0_1 := e10.cell p0_1
  replace x0_0 := e10.cell x0_0
  replace x0_1 := e10.cell x0_1
  replace t5o := t5o.ext e10
  replace t6o := t6o.ext e10
  replace E := E.trans e10
  clear e10
  replace t10o := OI.of t10o
  go_wp2_with fail
  refine (eqIntS_ok _ _ _ _ _ _ _ (t6o.vals) (t10o.vals) (by omega)).mono ?_
  rintro e w11 ⟨rfl, e11⟩
  replace e11 := Dr.ext e11
  have z11 := e11.size_le
  replace p0_0 := e11.cell p0_0
  replace p0_1 := e11.cell p0_1
  replace x0_0 := e11.cell x0_0
  replace x0_1 := e11.cell x0_1
  replace t5o := t5o.ext e11
  replace t6o := t6o.ext e11
  replace E := E.trans e11
  clear e11
  go_wp2_with fail
  go_ret
  exact ⟨rfl, E⟩

set_option maxHeartbeats 4000000 in
set_option maxRecDepth 100000 in
theorem lawReduceVector (n0 : Int) (a0 : Option Addr) (c0 : Nat) (xss0 : List (List Int)) (a1 : Option Addr) (c1 : Nat) (xs1 : List Int) (w : World) (r0_0 : MatR w a0 xss0) (r1_0 : Vals w a1 (I xs1)) (m0_0 : xss0.length ≤ maxLen) (m0_1 : ∀ xs ∈ xss0, xs.length ≤ maxLen) (m1_0 : xs1.length ≤ maxLen) :
    Calls Try.prog 10 #[bsV n0 a0 c0 xss0, .slice a1 xs1.length c1] w (Gives w (.bool true)) := by
  replace m0_1 := Lib.hid m0_1
  by_cases hl1 : xs1.length ≤ 1048576
  rotate_left
  · have d1 : (1048576 : Int) < (xs1.length : Int) := by omega
    unfold maxLen at m1_0
    go_enter Try.func10, Try.ntmps10
    go_wp2_with fail
    go_ret
    exact ⟨rfl, (Ext.refl w).alloc _⟩
  have d1 : decide ((1048576 : Int) < (xs1.length : Int)) = false := by simp; omega
  by_cases hs0 : szM xss0 1048576 < 0
  · skip
    go_enter Try.func10, Try.ntmps10
    go_wp2_with fail
    refine (szBasis_ok _ _ _ _ _ _ (r0_0.ext ((Ext.refl w).alloc _)) m0_0 m0_1.out (by omega) (by omega)).mono ?_
    rintro e w1 ⟨rfl, e1⟩
    have E := ((Ext.refl w).alloc _).trans e1
    have z0 := e1.size_le
    simp at z0
    have p0_0 := e1.cell (p := ⟨w.heap.size, 0, none⟩) (v := .int .i64 n0) (by simp)
    have p0_1 := e1.cell (p := ⟨w.heap.size, 1, none⟩) (v := .slice a0 xss0.length c0) (by simp)
    go_wp2_with fail
    go_ret
    exact ⟨rfl, E⟩
  obtain ⟨hle0, heq0⟩ := szM_le (Int.not_lt.1 hs0)
  have hl0 : xss0.length ≤ 1048576 := by omega
  have hr0 : Hid (∀ xs ∈ xss0, xs.length ≤ 1048576) := fun xs hx => by have := rows_le hx; omega
  have ht0 : tot xss0 ≤ 1099511627776 := by omega
  have hu0 : tot xss0 ≤ 1048576 := by omega
  have hf0 : szM xss0 1048576 ≤ 1048576 := by omega
  have hg0 : 0 ≤ szM xss0 1048576 := by omega
  replace heq0 := Lib.hid heq0
  have hres : (rvB n0 xss0 xs1).length ≤ 1048576 := Nat.le_trans (rvB_len n0 xss0 xs1) (by omega)
  go_enter Try.func10, Try.ntmps10
  go_wp2_with fail
  refine (szBasis_ok _ _ _ _ _ _ (r0_0.ext ((Ext.refl w).alloc _)) m0_0 m0_1.out (by omega) (by omega)).mono ?_
  rintro e w1 ⟨rfl, e1⟩
  have E := ((Ext.refl w).alloc _).trans e1
  have z0 := e1.size_le
  simp at z0
  have p0_0 := e1.cell (p := ⟨w.heap.size, 0, none⟩) (v := .int .i64 n0) (by simp)
  have p0_1 := e1.cell (p := ⟨w.heap.size, 1, none⟩) (v := .slice a0 xss0.length c0) (by simp)
  go_wp2_with fail
  refine (toBasis_ok _ _ _ _ _ (r0_0.ext (E)) hl0 hr0.out).mono ?_
  rintro e w2 ⟨t2a, t2c, rfl, t2o, e2⟩
  have z2 := e2.size_le
  replace p0_0 := e2.cell p0_0
  replace p0_1 := e2.cell p0_1
  replace E := E.trans e2
  clear e2
  go_wp2_with fail
  refine (toIntS_ok _ _ _ _ (r1_0.ext (E)) hl1).mono ?_
  rintro e w3 ⟨t3a, t3c, rfl, t3o, e3⟩
  have z3 := e3.size_le
  replace p0_0 := e3.cell p0_0
  replace p0_1 := e3.cell p0_1
  replace t2o := t2o.ext e3
  replace E := E.trans e3
  clear e3
  replace t3o := OI.of t3o
  go_wp2_with fail
  refine (specReduceVector_ok _ _ _ _ _ _ _ _ (t2o.reads) (t3o.vals) hl0 hr0.out hl1).mono ?_
  rintro e w4 ⟨u0a, u0c, rfl, u0o, e4⟩
  have z4 := e4.size_le
  replace p0_0 := e4.cell p0_0
  replace p0_1 := e4.cell p0_1
  replace t2o := t2o.ext e4
  replace t3o := t3o.ext e4
  replace E := E.trans e4
  clear e4
  replace u0o := OI.of u0o
  go_wp2_with fail
  refine (toBasis_ok _ _ _ _ _ (r0_0.ext (E)) hl0 hr0.out).mono ?_
  rintro e w5 ⟨t5a, t5c, rfl, t5o, e5⟩
  have z5 := e5.size_le
  replace p0_0 := e5.cell p0_0
  replace p0_1 := e5.cell p0_1
  replace u0o := u0o.ext e5
  replace E := E.trans e5
  clear e5
  have y_p0_0 := ((Ext.refl w5).alloc (.cells #[.int .i64 n0, .slice t5a xss0.length t5c] 31)).cell p0_0
  have y_p0_1 := ((Ext.refl w5).alloc (.cells #[.int .i64 n0, .slice t5a xss0.length t5c] 31)).cell p0_1
  go_wp2_with fail
  refine (toIntS_ok _ _ _ _ (r1_0.ext (E.alloc _)) hl1).mono ?_
  clear y_p0_0 y_p0_1
  rintro e w6 ⟨t6a, t6c, rfl, t6o, e6⟩
  have z6 := e6.size_le
  simp at z6
  replace p0_0 := (((Ext.refl w5).alloc _).trans e6).cell p0_0
  replace p0_1 := (((Ext.refl w5).alloc _).trans e6).cell p0_1
  replace u0o := u0o.ext (((Ext.refl w5).alloc _).trans e6)
  replace t5o := t5o.ext (((Ext.refl w5).alloc _).trans e6)
  have x0_0 := e6.cell (p := ⟨w5.heap.size, 0, none⟩) (v := .int .i64 n0) (by simp)
  have x0_1 := e6.cell (p := ⟨w5.heap.size, 1, none⟩) (v := .slice t5a xss0.length t5c) (by simp)
  replace E := (E.alloc _).trans e6
  clear e6
  replace t6o := OI.of t6o
  replace t6o := t6o.mono (C := w5.heap.size + 1) (C2 := w6.heap.size) (by simp) (Nat.le_refl _)
  go_wp2_with fail
  refine (implReduceVector_ok _ _ _ _ _ _ _ _ (t5o.reads) (t6o.vals) hl0 hr0.out hl1).mono ?_
  rintro e w7 ⟨u1a, u1c, rfl, u1o, e7⟩
  have z7 := e7.size_le
  replace p0_0 := e7.cell p0_0
  replace p0_1 := e7.cell p0_1
  replace x0_0 := e7.cell x0_0
  replace x0_1 := e7.cell x0_1
  replace u0o := u0o.ext e7
  replace t5o := t5o.ext e7
  replace t6o := t6o.ext e7
  replace E := E.trans e7
  clear e7
  replace u1o := OI.of u1o
  go_wp2_with fail
  refine (eqIntS_ok _ _ _ _ _ _ _ (u1o.vals) (u0o.vals) (by omega)).mono ?_
  rintro e w8 ⟨rfl, e8⟩
  replace e8 := Dr.ext e8
  have z8 := e8.size_le
  replace p0_0 := e8.cell p0_0
  replace p0_1 := e8.cell p0_1
  replace x0_0 := e8.cell x0_0
  replace x0_1 := e8.cell x0_1
  replace u0o := u0o.ext e8
  replace t5o := t5o.ext e8
  replace t6o := t6o.ext e8
  replace u1o := u1o.ext e8
  replace E := E.trans e8
  clear e8
  have qe0 := eqB_self n0 xss0
  go_wp2_with fail
  go_region_held3 (fun w' => w'.cell? ⟨w.heap.size, 0, none⟩ = some (.int .i64 n0) ∧ w'.cell? ⟨w.heap.size, 1, none⟩ = some (.slice a0 xss0.length c0) ∧ w'.cell? ⟨w5.heap.size, 0, none⟩ = some (.int .i64 n0) ∧ w'.cell? ⟨w5.heap.size, 1, none⟩ = some (.slice t5a xss0.length t5c))
    (first | go_keep | exact ⟨(e10).cell ((e9).cell (p0_0)), (e10).cell ((e9).cell (p0_1)), (e10).cell ((e9).cell (x0_0)), (e10).cell ((e9).cell (x0_1))⟩ | exact ⟨(e9).cell (p0_0), (e9).cell (p0_1), (e9).cell (x0_0), (e9).cell (x0_1)⟩)
    (first | (go_at_call 22; (with_reducible refine (toBasis_ok _ _ _ _ _ (r0_0.ext (E.trans ((Ext.refl w8).drew))) hl0 hr0.out).mono ?_); rintro e w9 ⟨t9a, t9c, rfl, t9o, e9⟩) | (go_at_call 24; (with_reducible refine (eqBasis_ok _ _ _ _ _ _ _ _ _ ((t5o.reads).ext (((Ext.refl w8).drew).trans e9)) (t9o.reads) hl0 hr0.out).mono ?_); rintro e w10 ⟨rfl, e10⟩))
  have z9 := (((Ext.refl w8).drew.trans e9)).size_le
  have z10 := (e10).size_le
  replace p0_0 := (e10).cell ((e9).cell (p0_0))
  replace p0_1 := (e10).cell ((e9).cell (p0_1))
  replace x0_0 := (e10).cell ((e9).cell (x0_0))
  replace x0_1 := (e10).cell ((e9).cell (x0_1))
  replace u0o := u0o.ext ((((Ext.refl w8).drew).trans e9).trans e10)
  replace t5o := t5o.ext ((((Ext.refl w8).drew).trans e9).trans e10)
  replace t6o := t6o.ext ((((Ext.refl w8).drew).trans e9).trans e10)
  replace u1o := u1o.ext ((((Ext.refl w8).drew).trans e9).trans e10)
  replace E := E.trans ((((Ext.refl w8).drew).trans e9).trans e10)
  go_wp2_with fail
  refine (toIntS_ok _ _ _ _ (r1_0.ext (E)) hl1).mono ?_
  rintro e w11 ⟨t11a, t11c, rfl, t11o, e11⟩
  have z11 := e11.size_le
  replace p0_0 := e11.cell p0_0
  replace p0_1 := e11.cell p0_1
  replace x0_0 := e11.cell x0_0
  replace x0_1 := e11.cell x0_1
  replace u0o := u0o.ext e11
  replace t5o := t5o.ext e11
  replace t6o := t6o.ext e11
  replace u1o := u1o.ext e11
  replace E := E.trans e11
  clear e11
  replace t11o := OI.of t11o
  go_wp2_with fail
  refine (eqIntS_ok _ _ _ _ _ _ _ (t6o.vals) (t11o.vals) (by omega)).mono ?_
  rintro e w12 ⟨rfl, e12⟩
  replace e12 := Dr.ext e12
  have z12 := e12.size_le
  replace p0_0 := e12.cell p0_0
  replace p0_1 := e12.cell p0_1
  replace x0_0 := e12.cell x0_0
  replace x0_1 := e12.cell x0_1
  replace u0o := u0o.ext e12
  replace t5o := t5o.ext e12
  replace t6o := t6o.ext e12
  replace u1o := u1o.ext e12
  replace E := E.trans e12
  clear e12
  go_wp2_with fail
  refine (markBasis_ok _ _ _ _ _ _ _ _ t5o (by omega) (by omega) ht0 (by omega) (by omega)).mono ?_
  rintro e w13 ⟨rfl, t5o', s13⟩
  have z13 := s13.size
  replace p0_0 := s13.cell p0_0 (by show w.heap.size < _ ∨ _ ≤ w.heap.size; omega)
  replace p0_1 := s13.cell p0_1 (by show w.heap.size < _ ∨ _ ≤ w.heap.size; omega)
  replace x0_0 := s13.cell x0_0 (by show w5.heap.size < _ ∨ _ ≤ w5.heap.size; omega)
  replace x0_1 := s13.cell x0_1 (by show w5.heap.size < _ ∨ _ ≤ w5.heap.size; omega)
  replace u0o := u0o.span s13 (by omega)
  replace t6o := t6o.span s13 (by omega)
  replace u1o := u1o.span s13 (by omega)
  replace E := Span.ext E s13 (by omega)
  clear s13 t5o
  have t5o := t5o'
  clear t5o'
  go_wp2_with fail
  refine (markIntS_ok _ _ _ _ _ _ _ t6o (by omega) (by omega) (by omega)).mono ?_
  rintro e w14 ⟨rfl, t6o', s14⟩
  have z14 := s14.size
  replace p0_0 := s14.cell p0_0 (by show w.heap.size < _ ∨ _ ≤ w.heap.size; omega)
  replace p0_1 := s14.cell p0_1 (by show w.heap.size < _ ∨ _ ≤ w.heap.size; omega)
  replace x0_0 := s14.cell x0_0 (by show w5.heap.size < _ ∨ _ ≤ w5.heap.size; omega)
  replace x0_1 := s14.cell x0_1 (by show w5.heap.size < _ ∨ _ ≤ w5.heap.size; omega)
  replace u0o := u0o.span s14 (by omega)
  replace u1o := u1o.span s14 (by omega)
  replace E := Span.ext E s14 (by omega)
  clear s14 t6o
  have t6o := t6o'
  clear t6o'
  go_wp2_with fail
  refine (eqIntS_ok _ _ _ _ _ _ _ (u1o.vals) (u0o.vals) (by omega)).mono ?_
  rintro e w15 ⟨rfl, e15⟩
  replace e15 := Dr.ext e15
  have z15 := e15.size_le
  replace p0_0 := e15.cell p0_0
  replace p0_1 := e15.cell p0_1
  replace x0_0 := e15.cell x0_0
  replace x0_1 := e15.cell x0_1
  replace u0o := u0o.ext e15
  replace u1o := u1o.ext e15
  replace E := E.trans e15
  clear e15
  go_wp2_with fail
  refine (markIntS_ok _ _ _ _ _ _ _ u1o (by omega) (by omega) (by omega)).mono ?_
  rintro e w16 ⟨rfl, u1o', s16⟩
  have z16 := s16.size
  replace p0_0 := s16.cell p0_0 (by show w.heap.size < _ ∨ _ ≤ w.heap.size; omega)
  replace p0_1 := s16.cell p0_1 (by show w.heap.size < _ ∨ _ ≤ w.heap.size; omega)
  replace x0_0 := s16.cell x0_0 (by show w5.heap.size < _ ∨ _ ≤ w5.heap.size; omega)
  replace x0_1 := s16.cell x0_1 (by show w5.heap.size < _ ∨ _ ≤ w5.heap.size; omega)
  replace u0o := u0o.span s16 (by omega)
  replace E := Span.ext E s16 (by omega)
  clear s16 u1o
  have u1o := u1o'
  clear u1o'
  go_wp2_with fail
  refine (heldIntS_ok _ _ _ _ _ (u1o.vals) (by omega) (by omega) (by omega)).mono ?_
  rintro e w17 ⟨rfl, rfl⟩
  go_wp2_with fail
  refine (toBasis_ok _ _ _ _ _ (r0_0.ext (E)) hl0 hr0.out).mono ?_
  rintro e w17 ⟨t17a, t17c, rfl, t17o, e17⟩
  have z17 := e17.size_le
  replace p0_0 := e17.cell p0_0
  replace p0_1 := e17.cell p0_1
  replace x0_0 := e17.cell x0_0
  replace x0_1 := e17.cell x0_1
  replace u0o := u0o.ext e17
  replace u1o := u1o.ext e17
  replace E := E.trans e17
  clear e17
  go_wp2_with fail
  refine (toIntS_ok _ _ _ _ (r1_0.ext (E)) hl1).mono ?_
  rintro e w18 ⟨t18a, t18c, rfl, t18o, e18⟩
  have z18 := e18.size_le
  replace p0_0 := e18.cell p0_0
  replace p0_1 := e18.cell p0_1
  replace x0_0 := e18.cell x0_0
  replace x0_1 := e18.cell x0_1
  replace u0o := u0o.ext e18
  replace u1o := u1o.ext e18
  replace t17o := t17o.ext e18
  replace E := E.trans e18
  clear e18
  replace t18o := OI.of t18o
  go_wp2_with fail
  refine (implReduceVector_ok _ _ _ _ _ _ _ _ (t17o.reads) (t18o.vals) hl0 hr0.out hl1).mono ?_
  rintro e w19 ⟨u2a, u2c, rfl, u2o, e19⟩
  have z19 := e19.size_le
  replace p0_0 := e19.cell p0_0
  replace p0_1 := e19.cell p0_1
  replace x0_0 := e19.cell x0_0
  replace x0_1 := e19.cell x0_1
  replace u0o := u0o.ext e19
  replace u1o := u1o.ext e19
  replace t17o := t17o.ext e19
  replace t18o := t18o.ext e19
  replace E := E.trans e19
  clear e19
  replace u2o := OI.of u2o
  go_wp2_with fail
  refine (eqIntS_ok _ _ _ _ _ _ _ (u2o.vals) (u0o.vals) (by omega)).mono ?_
  rintro e w20 ⟨rfl, e20⟩
  replace e20 := Dr.ext e20
  have z20 := e20.size_le
  replace p0_0 := e20.cell p0_0
  replace p0_1 := e20.cell p0_1
  replace x0_0 := e20.cell x0_0
  replace x0_1 := e20.cell x0_1
  replace u0o := u0o.ext e20
  replace u1o := u1o.ext e20
  replace u2o := u2o.ext e20
  replace E := E.trans e20
  clear e20
  go_wp2_with fail
  refine (heldIntS_ok _ _ _ _ _ (u1o.vals) (by omega) (by omega) (by omega)).mono ?_
  rintro e w21 ⟨rfl, rfl⟩
  go_wp2_with fail
  go_ret
  exact ⟨rfl, E⟩

set_option maxHeartbeats 4000000 in
set_option maxRecDepth 100000 in
theorem lawIsSubspace (n0 : Int) (a0 : Option Addr) (c0 : Nat) (xss0 : List (List Int)) (n1 : Int) (a1 : Option Addr) (c1 : Nat) (xss1 : List (List Int)) (w : World) (r0_0 : MatR w a0 xss0) (r1_0 : MatR w a1 xss1) (m0_0 : xss0.length ≤ maxLen) (m0_1 : ∀ xs ∈ xss0, xs.length ≤ maxLen) (m1_0 : xss1.length ≤ maxLen) (m1_1 : ∀ xs ∈ xss1, xs.length ≤ maxLen) :
    Calls Try.prog 9 #[bsV n0 a0 c0 xss0, bsV n1 a1 c1 xss1] w (Gives w (.bool true)) := by
  replace m0_1 := Lib.hid m0_1
  replace m1_1 := Lib.hid m1_1
  by_cases hs0 : szM xss0 1048576 < 0
  · skip
    go_enter Try.func9, Try.ntmps9
    go_wp2_with fail
    refine (szBasis_ok _ _ _ _ _ _ (r0_0.ext (((Ext.refl w).alloc _).alloc _)) m0_0 m0_1.out (by omega) (by omega)).mono ?_
    rintro e w1 ⟨rfl, e1⟩
    have E := (((Ext.refl w).alloc _).alloc _).trans e1
    have z0 := e1.size_le
    simp at z0
    have p0_0 := e1.cell (p := ⟨w.heap.size, 0, none⟩) (v := .int .i64 n0) (by simp)
    have p0_1 := e1.cell (p := ⟨w.heap.size, 1, none⟩) (v := .slice a0 xss0.length c0) (by simp)
    have p1_0 := e1.cell (p := ⟨w.heap.size + 1, 0, none⟩) (v := .int .i64 n1) (by simp)
    have p1_1 := e1.cell (p := ⟨w.heap.size + 1, 1, none⟩) (v := .slice a1 xss1.length c1) (by simp)
    go_wp2_with fail
    go_ret
    exact ⟨rfl, E⟩
  obtain ⟨hle0, heq0⟩ := szM_le (Int.not_lt.1 hs0)
  have hl0 : xss0.length ≤ 1048576 := by omega
  have hr0 : Hid (∀ xs ∈ xss0, xs.length ≤ 1048576) := fun xs hx => by have := rows_le hx; omega
  have ht0 : tot xss0 ≤ 1099511627776 := by omega
  have hu0 : tot xss0 ≤ 1048576 := by omega
  have hf0 : szM xss0 1048576 ≤ 1048576 := by omega
  have hg0 : 0 ≤ szM xss0 1048576 := by omega
  replace heq0 := Lib.hid heq0
  by_cases hs1 : szM xss1 (szM xss0 1048576) < 0
  · skip
    go_enter Try.func9, Try.ntmps9
    go_wp2_with fail
    refine (szBasis_ok _ _ _ _ _ _ (r0_0.ext (((Ext.refl w).alloc _).alloc _)) m0_0 m0_1.out (by omega) (by omega)).mono ?_
    rintro e w1 ⟨rfl, e1⟩
    have E := (((Ext.refl w).alloc _).alloc _).trans e1
    have z0 := e1.size_le
    simp at z0
    have p0_0 := e1.cell (p := ⟨w.heap.size, 0, none⟩) (v := .int .i64 n0) (by simp)
    have p0_1 := e1.cell (p := ⟨w.heap.size, 1, none⟩) (v := .slice a0 xss0.length c0) (by simp)
    have p1_0 := e1.cell (p := ⟨w.heap.size + 1, 0, none⟩) (v := .int .i64 n1) (by simp)
    have p1_1 := e1.cell (p := ⟨w.heap.size + 1, 1, none⟩) (v := .slice a1 xss1.length c1) (by simp)
    go_wp2_with fail
    refine (szBasis_ok _ _ _ _ _ _ (r1_0.ext (E)) m1_0 m1_1.out (by omega) (by omega)).mono ?_
    rintro e w2 ⟨rfl, e2⟩
    have z2 := e2.size_le
    replace p0_0 := e2.cell p0_0
    replace p0_1 := e2.cell p0_1
    replace p1_0 := e2.cell p1_0
    replace p1_1 := e2.cell p1_1
    replace E := E.trans e2
    clear e2
    go_wp2_with fail
    go_ret
    exact ⟨rfl, E⟩
  obtain ⟨hle1, heq1⟩ := szM_le (Int.not_lt.1 hs1)
  have hl1 : xss1.length ≤ 1048576 := by omega
  have hr1 : Hid (∀ xs ∈ xss1, xs.length ≤ 1048576) := fun xs hx => by have := rows_le hx; omega
  have ht1 : tot xss1 ≤ 1099511627776 := by omega
  have hu1 : tot xss1 ≤ 1048576 := by omega
  have hf1 : szM xss1 (szM xss0 1048576) ≤ 1048576 := by omega
  have hg1 : 0 ≤ szM xss1 (szM xss0 1048576) := by omega
  replace heq1 := Lib.hid heq1
  go_enter Try.func9, Try.ntmps9
  go_wp2_with fail
  refine (szBasis_ok _ _ _ _ _ _ (r0_0.ext (((Ext.refl w).alloc _).alloc _)) m0_0 m0_1.out (by omega) (by omega)).mono ?_
  rintro e w1 ⟨rfl, e1⟩
  have E := (((Ext.refl w).alloc _).alloc _).trans e1
  have z0 := e1.size_le
  simp at z0
  have p0_0 := e1.cell (p := ⟨w.heap.size, 0, none⟩) (v := .int .i64 n0) (by simp)
  have p0_1 := e1.cell (p := ⟨w.heap.size, 1, none⟩) (v := .slice a0 xss0.length c0) (by simp)
  have p1_0 := e1.cell (p := ⟨w.heap.size + 1, 0, none⟩) (v := .int .i64 n1) (by simp)
  have p1_1 := e1.cell (p := ⟨w.heap.size + 1, 1, none⟩) (v := .slice a1 xss1.length c1) (by simp)
  go_wp2_with fail
  refine (szBasis_ok _ _ _ _ _ _ (r1_0.ext (E)) m1_0 m1_1.out (by omega) (by omega)).mono ?_
  rintro e w2 ⟨rfl, e2⟩
  have z2 := e2.size_le
  replace p0_0 := e2.cell p0_0
  replace p0_1 := e2.cell p0_1
  replace p1_0 := e2.cell p1_0
  replace p1_1 := e2.cell p1_1
  replace E := E.trans e2
  clear e2
  go_wp2_with fail
  go_region_held3 (fun w' => w'.cell? ⟨w.heap.size, 0, none⟩ = some (.int .i64 n0) ∧ w'.cell? ⟨w.heap.size, 1, none⟩ = some (.slice a0 xss0.length c0) ∧ w'.cell? ⟨w.heap.size + 1, 0, none⟩ = some (.int .i64 n1) ∧ w'.cell? ⟨w.heap.size + 1, 1, none⟩ = some (.slice a1 xss1.length c1))
    (first | go_keep | exact ⟨(e5).cell ((e4).cell ((e3).cell (p0_0))), (e5).cell ((e4).cell ((e3).cell (p0_1))), (e5).cell ((e4).cell ((e3).cell (p1_0))), (e5).cell ((e4).cell ((e3).cell (p1_1)))⟩ | exact ⟨(e4).cell ((e3).cell (p0_0)), (e4).cell ((e3).cell (p0_1)), (e4).cell ((e3).cell (p1_0)), (e4).cell ((e3).cell (p1_1))⟩ | exact ⟨(e3).cell (p0_0), (e3).cell (p0_1), (e3).cell (p1_0), (e3).cell (p1_1)⟩)
    (first | (go_at_call 22; (with_reducible refine (toBasis_ok _ _ _ _ _ (r0_0.ext (E.trans ((Ext.refl w2).drew))) hl0 hr0.out).mono ?_); rintro e w3 ⟨t3a, t3c, rfl, t3o, e3⟩) | (go_at_call 22; (with_reducible refine (toBasis_ok _ _ _ _ _ (r1_0.ext (E.trans (((Ext.refl w2).drew).trans e3))) hl1 hr1.out).mono ?_); rintro e w4 ⟨t4a, t4c, rfl, t4o, e4⟩) | (go_at_call 38; (with_reducible refine (specIsSubspace_ok _ _ _ _ _ _ _ _ _ ((t3o.reads).ext e4) (t4o.reads) hl0 hr0.out hl1 hr1.out).mono ?_); rintro e w5 ⟨rfl, e5⟩))
  have z3 := (((Ext.refl w2).drew.trans e3)).size_le
  have z4 := (e4).size_le
  have z5 := (e5).size_le
  replace p0_0 := (e5).cell ((e4).cell ((e3).cell (p0_0)))
  replace p0_1 := (e5).cell ((e4).cell ((e3).cell (p0_1)))
  replace p1_0 := (e5).cell ((e4).cell ((e3).cell (p1_0)))
  replace p1_1 := (e5).cell ((e4).cell ((e3).cell (p1_1)))
  replace E := E.trans (((((Ext.refl w2).drew).trans e3).trans e4).trans e5)
  go_wp2_with fail
  refine (toBasis_ok _ _ _ _ _ (r0_0.ext (E)) hl0 hr0.out).mono ?_
  rintro e w6 ⟨t6a, t6c, rfl, t6o, e6⟩
  have z6 := e6.size_le
  replace p0_0 := e6.cell p0_0
  replace p0_1 := e6.cell p0_1
  replace p1_0 := e6.cell p1_0
  replace p1_1 := e6.cell p1_1
  replace E := E.trans e6
  clear e6
  have y_p0_0 := ((Ext.refl w6).alloc (.cells #[.int .i64 n0, .slice t6a xss0.length t6c] 31)).cell p0_0
  have y_p0_1 := ((Ext.refl w6).alloc (.cells #[.int .i64 n0, .slice t6a xss0.length t6c] 31)).cell p0_1
  have y_p1_0 := ((Ext.refl w6).alloc (.cells #[.int .i64 n0, .slice t6a xss0.length t6c] 31)).cell p1_0
  have y_p1_1 := ((Ext.refl w6).alloc (.cells #[.int .i64 n0, .slice t6a xss0.length t6c] 31)).cell p1_1
  go_wp2_with fail
  refine (toBasis_ok _ _ _ _ _ (r1_0.ext (E.alloc _)) hl1 hr1.out).mono ?_
  clear y_p0_0 y_p0_1 y_p1_0 y_p1_1
  rintro e w7 ⟨t7a, t7c, rfl, t7o, e7⟩
  have z7 := e7.size_le
  simp at z7
  replace p0_0 := (((Ext.refl w6).alloc _).trans e7).cell p0_0
  replace p0_1 := (((Ext.refl w6).alloc _).trans e7).cell p0_1
  replace p1_0 := (((Ext.refl w6).alloc _).trans e7).cell p1_0
  replace p1_1 := (((Ext.refl w6).alloc _).trans e7).cell p1_1
  replace t6o := t6o.ext (((Ext.refl w6).alloc _).trans e7)
  have x0_0 := e7.cell (p := ⟨w6.heap.size, 0, none⟩) (v := .int .i64 n0) (by simp)
  have x0_1 := e7.cell (p := ⟨w6.heap.size, 1, none⟩) (v := .slice t6a xss0.length t6c) (by simp)
  replace E := (E.alloc _).trans e7
  clear e7
  replace t7o := t7o.mono (C := w6.heap.size + 1) (C2 := w7.heap.size) (by simp) (Nat.le_refl _)
  have y_p0_0 := ((Ext.refl w7).alloc (.cells #[.int .i64 n1, .slice t7a xss1.length t7c] 31)).cell p0_0
  have y_p0_1 := ((Ext.refl w7).alloc (.cells #[.int .i64 n1, .slice t7a xss1.length t7c] 31)).cell p0_1
  have y_p1_0 := ((Ext.refl w7).alloc (.cells #[.int .i64 n1, .slice t7a xss1.length t7c] 31)).cell p1_0
  have y_p1_1 := ((Ext.refl w7).alloc (.cells #[.int .i64 n1, .slice t7a xss1.length t7c] 31)).cell p1_1
  have y_x0_0 := ((Ext.refl w7).alloc (.cells #[.int .i64 n1, .slice t7a xss1.length t7c] 31)).cell x0_0
  have y_x0_1 := ((Ext.refl w7).alloc (.cells #[.int .i64 n1, .slice t7a xss1.length t7c] 31)).cell x0_1
  go_wp2_with fail
  refine (implIsSubspace_ok _ _ _ _ _ _ _ _ _ ((t6o.reads).ext ((Ext.refl _).alloc _)) ((t7o.reads).ext ((Ext.refl _).alloc _)) hl0 hr0.out hl1 hr1.out).mono ?_
  clear y_p0_0 y_p0_1 y_p1_0 y_p1_1 y_x0_0 y_x0_1
  rintro e w8 ⟨rfl, e8⟩
  have z8 := e8.size_le
  simp at z8
  replace p0_0 := (((Ext.refl w7).alloc _).trans e8).cell p0_0
  replace p0_1 := (((Ext.refl w7).alloc _).trans e8).cell p0_1
  replace p1_0 := (((Ext.refl w7).alloc _).trans e8).cell p1_0
  replace p1_1 := (((Ext.refl w7).alloc _).trans e8).cell p1_1
  replace x0_0 := (((Ext.refl w7).alloc _).trans e8).cell x0_0
  replace x0_1 := (((Ext.refl w7).alloc _).trans e8).cell x0_1
  replace t6o := t6o.ext (((Ext.refl w7).alloc _).trans e8)
  replace t7o := t7o.ext (((Ext.refl w7).alloc _).trans e8)
  have x1_0 := e8.cell (p := ⟨w7.heap.size, 0, none⟩) (v := .int .i64 n1) (by simp)
  have x1_1 := e8.cell (p := ⟨w7.heap.size, 1, none⟩) (v := .slice t7a xss1.length t7c) (by simp)
  replace E := (E.alloc _).trans e8
  clear e8
  have q0 : ((subB n0 xss0 n1 xss1) != (subB n0 xss0 n1 xss1)) = false := by simp
  have qe0 := eqB_self n0 xss0
  have qe1 := eqB_self n1 xss1
  go_wp2_with fail
  go_region_held3 (fun w' => w'.cell? ⟨w.heap.size, 0, none⟩ = some (.int .i64 n0) ∧ w'.cell? ⟨w.heap.size, 1, none⟩ = some (.slice a0 xss0.length c0) ∧ w'.cell? ⟨w.heap.size + 1, 0, none⟩ = some (.int .i64 n1) ∧ w'.cell? ⟨w.heap.size + 1, 1, none⟩ = some (.slice a1 xss1.length c1) ∧ w'.cell? ⟨w6.heap.size, 0, none⟩ = some (.int .i64 n0) ∧ w'.cell? ⟨w6.heap.size, 1, none⟩ = some (.slice t6a xss0.length t6c) ∧ w'.cell? ⟨w7.heap.size, 0, none⟩ = some (.int .i64 n1) ∧ w'.cell? ⟨w7.heap.size, 1, none⟩ = some (.slice t7a xss1.length t7c))
    (first | go_keep | exact ⟨(e10).cell ((e9).cell (p0_0)), (e10).cell ((e9).cell (p0_1)), (e10).cell ((e9).cell (p1_0)), (e10).cell ((e9).cell (p1_1)), (e10).cell ((e9).cell (x0_0)), (e10).cell ((e9).cell (x0_1)), (e10).cell ((e9).cell (x1_0)), (e10).cell ((e9).cell (x1_1))⟩ | exact ⟨(e9).cell (p0_0), (e9).cell (p0_1), (e9).cell (p1_0), (e9).cell (p1_1), (e9).cell (x0_0), (e9).cell (x0_1), (e9).cell (x1_0), (e9).cell (x1_1)⟩)
    (first | (go_at_call 22; (with_reducible refine (toBasis_ok _ _ _ _ _ (r0_0.ext (E.trans ((Ext.refl w8).drew))) hl0 hr0.out).mono ?_); rintro e w9 ⟨t9a, t9c, rfl, t9o, e9⟩) | (go_at_call 24; (with_reducible refine (eqBasis_ok _ _ _ _ _ _ _ _ _ ((t6o.reads).ext (((Ext.refl w8).drew).trans e9)) (t9o.reads) hl0 hr0.out).mono ?_); rintro e w10 ⟨rfl, e10⟩))
  have z9 := (((Ext.refl w8).drew.trans e9)).size_le
  have z10 := (e10).size_le
  replace p0_0 := (e10).cell ((e9).cell (p0_0))
  replace p0_1 := (e10).cell ((e9).cell (p0_1))
  replace p1_0 := (e10).cell ((e9).cell (p1_0))
  replace p1_1 := (e10).cell ((e9).cell (p1_1))
  replace x0_0 := (e10).cell ((e9).cell (x0_0))
  replace x0_1 := (e10).cell ((e9).cell (x0_1))
  replace x1_0 := (e10).cell ((e9).cell (x1_0))
  replace x1_1 := (e10).cell ((e9).cell (x1_1))
  replace t6o := t6o.ext ((((Ext.refl w8).drew).trans e9).trans e10)
  replace t7o := t7o.ext ((((Ext.refl w8).drew).trans e9).trans e10)
  replace E := E.trans ((((Ext.refl w8).drew).trans e9).trans e10)
  go_wp2_with fail
  go_region_held3 (fun w' => w'.cell? ⟨w.heap.size, 0, none⟩ = some (.int .i64 n0) ∧ w'.cell? ⟨w.heap.size, 1, none⟩ = some (.slice a0 xss0.length c0) ∧ w'.cell? ⟨w.heap.size + 1, 0, none⟩ = some (.int .i64 n1) ∧ w'.cell? ⟨w.heap.size + 1, 1, none⟩ = some (.slice a1 xss1.length c1) ∧ w'.cell? ⟨w6.heap.size, 0, none⟩ = some (.int .i64 n0) ∧ w'.cell? ⟨w6.heap.size, 1, none⟩ = some (.slice t6a xss0.length t6c) ∧ w'.cell? ⟨w7.heap.size, 0, none⟩ = some (.int .i64 n1) ∧ w'.cell? ⟨w7.heap.size, 1, none⟩ = some (.slice t7a xss1.length t7c))
    (first | go_keep | exact ⟨(e12).cell ((e11).cell (p0_0)), (e12).cell ((e11).cell (p0_1)), (e12).cell ((e11).cell (p1_0)), (e12).cell ((e11).cell (p1_1)), (e12).cell ((e11).cell (x0_0)), (e12).cell ((e11).cell (x0_1)), (e12).cell ((e11).cell (x1_0)), (e12).cell ((e11).cell (x1_1))⟩ | exact ⟨(e11).cell (p0_0), (e11).cell (p0_1), (e11).cell (p1_0), (e11).cell (p1_1), (e11).cell (x0_0), (e11).cell (x0_1), (e11).cell (x1_0), (e11).cell (x1_1)⟩)
    (first | (go_at_call 22; (with_reducible refine (toBasis_ok _ _ _ _ _ (r1_0.ext (E.trans ((Ext.refl w10).drew))) hl1 hr1.out).mono ?_); rintro e w11 ⟨t11a, t11c, rfl, t11o, e11⟩) | (go_at_call 24; (with_reducible refine (eqBasis_ok _ _ _ _ _ _ _ _ _ ((t7o.reads).ext (((Ext.refl w10).drew).trans e11)) (t11o.reads) hl1 hr1.out).mono ?_); rintro e w12 ⟨rfl, e12⟩))
  have z11 := (((Ext.refl w10).drew.trans e11)).size_le
  have z12 := (e12).size_le
  replace p0_0 := (e12).cell ((e11).cell (p0_0))
  replace p0_1 := (e12).cell ((e11).cell (p0_1))
  replace p1_0 := (e12).cell ((e11).cell (p1_0))
  replace p1_1 := (e12).cell ((e11).cell (p1_1))
  replace x0_0 := (e12).cell ((e11).cell (x0_0))
  replace x0_1 := (e12).cell ((e11).cell (x0_1))
  replace x1_0 := (e12).cell ((e11).cell (x1_0))
  replace x1_1 := (e12).cell ((e11).cell (x1_1))
  replace t6o := t6o.ext ((((Ext.refl w10).drew).trans e11).trans e12)
  replace t7o := t7o.ext ((((Ext.refl w10).drew).trans e11).trans e12)
  replace E := E.trans ((((Ext.refl w10).drew).trans e11).trans e12)
  go_wp2_with fail
  go_ret
  exact ⟨rfl, E⟩

end Go.Proofs.Ytkkblllhjcjcjaa
