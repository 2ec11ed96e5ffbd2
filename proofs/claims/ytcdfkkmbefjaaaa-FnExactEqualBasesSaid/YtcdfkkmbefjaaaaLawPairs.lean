/- The laws over bases and generations whose result is a number or a bool. -/
import Derived.Test.YtcdfkkmbefjaaaaPairs
import Derived.Deep.RegionHeld3
namespace Go.Proofs.Ytcdfkkmbefjaaaa
open Go.RowKit
set_option linter.unusedVariables false

set_option maxHeartbeats 4000000 in
set_option maxRecDepth 100000 in
theorem lawGenerationSize (n0 : Int) (a0 : Option Addr) (c0 : Nat) (xss0 : List (List Int)) (w : World) (r0_0 : MatR w a0 xss0) (m0_0 : xss0.length ≤ maxLen) (m0_1 : ∀ xs ∈ xss0, xs.length ≤ maxLen) :
    Calls Try.prog 7 #[bsV n0 a0 c0 xss0] w (Gives w (.bool true)) := by
  replace m0_1 := Lib.hid m0_1
  by_cases hs0 : szM xss0 1048576 < 0
  · skip
    go_enter Try.func7, Try.ntmps7
    go_wp2_with fail
    refine (szGeneration_ok _ _ _ _ _ _ (r0_0.ext ((Ext.refl w).alloc _)) m0_0 m0_1.out (by omega) (by omega)).mono ?_
    rintro e w1 ⟨rfl, e1⟩
    have E := ((Ext.refl w).alloc _).trans e1
    have z0 := e1.size_le
    simp at z0
    have p0_0 := e1.cell (p := ⟨w.heap.size, 0, none⟩) (v := .int .i64 n0) (by simp)
    have p0_1 := e1.cell (p := ⟨w.heap.size, 1, none⟩) (v := .slice a0 xss0.length c0) (by simp)
    go_wp2_with fail
    go_ret
    exact ⟨rfl, E⟩
  obtain ⟨hle0, heq0⟩ := szM_le (Int.not_lt.1 hs0)
  have hl0 : xss0.length ≤ 1048576 := by omega
  have hr0 : Hid (∀ xs ∈ xss0, xs.length ≤ 1048576) := fun xs hx => by have := rows_le hx; omega
  have ht0 : tot xss0 ≤ 1099511627776 := by omega
  have hu0 : tot xss0 ≤ 1048576 := by omega
  have hf0 : szM xss0 1048576 ≤ 1048576 := by omega
  have hg0 : 0 ≤ szM xss0 1048576 := by omega
  replace heq0 := Lib.hid heq0
  go_enter Try.func7, Try.ntmps7
  go_wp2_with fail
  refine (szGeneration_ok _ _ _ _ _ _ (r0_0.ext ((Ext.refl w).alloc _)) m0_0 m0_1.out (by omega) (by omega)).mono ?_
  rintro e w1 ⟨rfl, e1⟩
  have E := ((Ext.refl w).alloc _).trans e1
  have z0 := e1.size_le
  simp at z0
  have p0_0 := e1.cell (p := ⟨w.heap.size, 0, none⟩) (v := .int .i64 n0) (by simp)
  have p0_1 := e1.cell (p := ⟨w.heap.size, 1, none⟩) (v := .slice a0 xss0.length c0) (by simp)
  go_wp2_with fail
  refine (toGeneration_ok _ _ _ _ _ (r0_0.ext (E)) hl0 hr0.out).mono ?_
  rintro e w2 ⟨t2a, t2c, rfl, t2o, e2⟩
  have z2 := e2.size_le
  replace p0_0 := e2.cell p0_0
  replace p0_1 := e2.cell p0_1
  replace E := E.trans e2
  clear e2
  go_wp2_with fail
  refine (specGenerationSize_ok _ _ _ _ _).mono ?_
  rintro e w3 ⟨rfl, e3⟩
  have z3 := e3.size_le
  replace p0_0 := e3.cell p0_0
  replace p0_1 := e3.cell p0_1
  replace t2o := t2o.ext e3
  replace E := E.trans e3
  clear e3
  go_wp2_with fail
  refine (toGeneration_ok _ _ _ _ _ (r0_0.ext (E)) hl0 hr0.out).mono ?_
  rintro e w4 ⟨t4a, t4c, rfl, t4o, e4⟩
  have z4 := e4.size_le
  replace p0_0 := e4.cell p0_0
  replace p0_1 := e4.cell p0_1
  replace E := E.trans e4
  clear e4
  have y_p0_0 := ((Ext.refl w4).alloc (.cells #[.int .i64 n0, .slice t4a xss0.length t4c] 42)).cell p0_0
  have y_p0_1 := ((Ext.refl w4).alloc (.cells #[.int .i64 n0, .slice t4a xss0.length t4c] 42)).cell p0_1
  go_wp2_with fail
  refine (implGenerationSize_ok _ _ _ _ _).mono ?_
  clear y_p0_0 y_p0_1
  rintro e w5 ⟨rfl, e5⟩
  have z5 := e5.size_le
  simp at z5
  replace p0_0 := (((Ext.refl w4).alloc _).trans e5).cell p0_0
  replace p0_1 := (((Ext.refl w4).alloc _).trans e5).cell p0_1
  replace t4o := t4o.ext (((Ext.refl w4).alloc _).trans e5)
  have x0_0 := e5.cell (p := ⟨w4.heap.size, 0, none⟩) (v := .int .i64 n0) (by simp)
  have x0_1 := e5.cell (p := ⟨w4.heap.size, 1, none⟩) (v := .slice t4a xss0.length t4c) (by simp)
  replace E := (E.alloc _).trans e5
  clear e5
  have q0 : (((xss0.length : Int)) != ((xss0.length : Int))) = false := by simp
  have qe0 := eqB_self n0 xss0
  go_wp2_with fail
  go_region_held3 (fun w' => w'.cell? ⟨w.heap.size, 0, none⟩ = some (.int .i64 n0) ∧ w'.cell? ⟨w.heap.size, 1, none⟩ = some (.slice a0 xss0.length c0) ∧ w'.cell? ⟨w4.heap.size, 0, none⟩ = some (.int .i64 n0) ∧ w'.cell? ⟨w4.heap.size, 1, none⟩ = some (.slice t4a xss0.length t4c))
    (first | go_keep | exact ⟨(e7).cell ((e6).cell (p0_0)), (e7).cell ((e6).cell (p0_1)), (e7).cell ((e6).cell (x0_0)), (e7).cell ((e6).cell (x0_1))⟩ | exact ⟨(e6).cell (p0_0), (e6).cell (p0_1), (e6).cell (x0_0), (e6).cell (x0_1)⟩)
    (first | (go_at_call 30; (with_reducible refine (toGeneration_ok _ _ _ _ _ (r0_0.ext (E.trans ((Ext.refl w5).drew))) hl0 hr0.out).mono ?_); rintro e w6 ⟨t6a, t6c, rfl, t6o, e6⟩) | (go_at_call 32; (with_reducible refine (eqGeneration_ok _ _ _ _ _ _ _ _ _ ((t4o.reads).ext (((Ext.refl w5).drew).trans e6)) (t6o.reads) hl0 hr0.out).mono ?_); rintro e w7 ⟨rfl, e7⟩))
  have z6 := (e6).size_le
  have z7 := (e7).size_le
  replace p0_0 := (e7).cell ((e6).cell (p0_0))
  replace p0_1 := (e7).cell ((e6).cell (p0_1))
  replace x0_0 := (e7).cell ((e6).cell (x0_0))
  replace x0_1 := (e7).cell ((e6).cell (x0_1))
  replace t4o := t4o.ext ((((Ext.refl w5).drew).trans e6).trans e7)
  replace E := E.trans ((((Ext.refl w5).drew).trans e6).trans e7)
  go_wp2_with fail
  go_ret
  exact ⟨rfl, E⟩

set_option maxHeartbeats 4000000 in
set_option maxRecDepth 100000 in
theorem lawSymbolWidth (n0 : Int) (a0 : Option Addr) (c0 : Nat) (xss0 : List (List Int)) (w : World) (r0_0 : MatR w a0 xss0) (m0_0 : xss0.length ≤ maxLen) (m0_1 : ∀ xs ∈ xss0, xs.length ≤ maxLen) :
    Calls Try.prog 11 #[bsV n0 a0 c0 xss0] w (Gives w (.bool true)) := by
  replace m0_1 := Lib.hid m0_1
  by_cases hs0 : szM xss0 1048576 < 0
  · skip
    go_enter Try.func11, Try.ntmps11
    go_wp2_with fail
    refine (szGeneration_ok _ _ _ _ _ _ (r0_0.ext ((Ext.refl w).alloc _)) m0_0 m0_1.out (by omega) (by omega)).mono ?_
    rintro e w1 ⟨rfl, e1⟩
    have E := ((Ext.refl w).alloc _).trans e1
    have z0 := e1.size_le
    simp at z0
    have p0_0 := e1.cell (p := ⟨w.heap.size, 0, none⟩) (v := .int .i64 n0) (by simp)
    have p0_1 := e1.cell (p := ⟨w.heap.size, 1, none⟩) (v := .slice a0 xss0.length c0) (by simp)
    go_wp2_with fail
    go_ret
    exact ⟨rfl, E⟩
  obtain ⟨hle0, heq0⟩ := szM_le (Int.not_lt.1 hs0)
  have hl0 : xss0.length ≤ 1048576 := by omega
  have hr0 : Hid (∀ xs ∈ xss0, xs.length ≤ 1048576) := fun xs hx => by have := rows_le hx; omega
  have ht0 : tot xss0 ≤ 1099511627776 := by omega
  have hu0 : tot xss0 ≤ 1048576 := by omega
  have hf0 : szM xss0 1048576 ≤ 1048576 := by omega
  have hg0 : 0 ≤ szM xss0 1048576 := by omega
  replace heq0 := Lib.hid heq0
  go_enter Try.func11, Try.ntmps11
  go_wp2_with fail
  refine (szGeneration_ok _ _ _ _ _ _ (r0_0.ext ((Ext.refl w).alloc _)) m0_0 m0_1.out (by omega) (by omega)).mono ?_
  rintro e w1 ⟨rfl, e1⟩
  have E := ((Ext.refl w).alloc _).trans e1
  have z0 := e1.size_le
  simp at z0
  have p0_0 := e1.cell (p := ⟨w.heap.size, 0, none⟩) (v := .int .i64 n0) (by simp)
  have p0_1 := e1.cell (p := ⟨w.heap.size, 1, none⟩) (v := .slice a0 xss0.length c0) (by simp)
  go_wp2_with fail
  refine (toGeneration_ok _ _ _ _ _ (r0_0.ext (E)) hl0 hr0.out).mono ?_
  rintro e w2 ⟨t2a, t2c, rfl, t2o, e2⟩
  have z2 := e2.size_le
  replace p0_0 := e2.cell p0_0
  replace p0_1 := e2.cell p0_1
  replace E := E.trans e2
  clear e2
  go_wp2_with fail
  refine (specSymbolWidth_ok _ _ _ _ _ (t2o.reads)).mono ?_
  rintro e w3 ⟨rfl, e3⟩
  have z3 := e3.size_le
  replace p0_0 := e3.cell p0_0
  replace p0_1 := e3.cell p0_1
  replace t2o := t2o.ext e3
  replace E := E.trans e3
  clear e3
  go_wp2_with fail
  refine (toGeneration_ok _ _ _ _ _ (r0_0.ext (E)) hl0 hr0.out).mono ?_
  rintro e w4 ⟨t4a, t4c, rfl, t4o, e4⟩
  have z4 := e4.size_le
  replace p0_0 := e4.cell p0_0
  replace p0_1 := e4.cell p0_1
  replace E := E.trans e4
  clear e4
  have y_p0_0 := ((Ext.refl w4).alloc (.cells #[.int .i64 n0, .slice t4a xss0.length t4c] 42)).cell p0_0
  have y_p0_1 := ((Ext.refl w4).alloc (.cells #[.int .i64 n0, .slice t4a xss0.length t4c] 42)).cell p0_1
  go_wp2_with fail
  refine (implSymbolWidth_ok _ _ _ _ _ ((t4o.reads).ext ((Ext.refl _).alloc _))).mono ?_
  clear y_p0_0 y_p0_1
  rintro e w5 ⟨rfl, e5⟩
  have z5 := e5.size_le
  simp at z5
  replace p0_0 := (((Ext.refl w4).alloc _).trans e5).cell p0_0
  replace p0_1 := (((Ext.refl w4).alloc _).trans e5).cell p0_1
  replace t4o := t4o.ext (((Ext.refl w4).alloc _).trans e5)
  have x0_0 := e5.cell (p := ⟨w4.heap.size, 0, none⟩) (v := .int .i64 n0) (by simp)
  have x0_1 := e5.cell (p := ⟨w4.heap.size, 1, none⟩) (v := .slice t4a xss0.length t4c) (by simp)
  replace E := (E.alloc _).trans e5
  clear e5
  have q0 : (((cols xss0 : Int)) != ((cols xss0 : Int))) = false := by simp
  have qe0 := eqB_self n0 xss0
  go_wp2_with fail
  go_region_held3 (fun w' => w'.cell? ⟨w.heap.size, 0, none⟩ = some (.int .i64 n0) ∧ w'.cell? ⟨w.heap.size, 1, none⟩ = some (.slice a0 xss0.length c0) ∧ w'.cell? ⟨w4.heap.size, 0, none⟩ = some (.int .i64 n0) ∧ w'.cell? ⟨w4.heap.size, 1, none⟩ = some (.slice t4a xss0.length t4c))
    (first | go_keep | exact ⟨(e7).cell ((e6).cell (p0_0)), (e7).cell ((e6).cell (p0_1)), (e7).cell ((e6).cell (x0_0)), (e7).cell ((e6).cell (x0_1))⟩ | exact ⟨(e6).cell (p0_0), (e6).cell (p0_1), (e6).cell (x0_0), (e6).cell (x0_1)⟩)
    (first | (go_at_call 30; (with_reducible refine (toGeneration_ok _ _ _ _ _ (r0_0.ext (E.trans ((Ext.refl w5).drew))) hl0 hr0.out).mono ?_); rintro e w6 ⟨t6a, t6c, rfl, t6o, e6⟩) | (go_at_call 32; (with_reducible refine (eqGeneration_ok _ _ _ _ _ _ _ _ _ ((t4o.reads).ext (((Ext.refl w5).drew).trans e6)) (t6o.reads) hl0 hr0.out).mono ?_); rintro e w7 ⟨rfl, e7⟩))
  have z6 := (e6).size_le
  have z7 := (e7).size_le
  replace p0_0 := (e7).cell ((e6).cell (p0_0))
  replace p0_1 := (e7).cell ((e6).cell (p0_1))
  replace x0_0 := (e7).cell ((e6).cell (x0_0))
  replace x0_1 := (e7).cell ((e6).cell (x0_1))
  replace t4o := t4o.ext ((((Ext.refl w5).drew).trans e6).trans e7)
  replace E := E.trans ((((Ext.refl w5).drew).trans e6).trans e7)
  go_wp2_with fail
  go_ret
  exact ⟨rfl, E⟩

set_option maxHeartbeats 4000000 in
set_option maxRecDepth 100000 in
theorem lawEqualGenerations (n0 : Int) (a0 : Option Addr) (c0 : Nat) (xss0 : List (List Int)) (n1 : Int) (a1 : Option Addr) (c1 : Nat) (xss1 : List (List Int)) (w : World) (r0_0 : MatR w a0 xss0) (r1_0 : MatR w a1 xss1) (m0_0 : xss0.length ≤ maxLen) (m0_1 : ∀ xs ∈ xss0, xs.length ≤ maxLen) (m1_0 : xss1.length ≤ maxLen) (m1_1 : ∀ xs ∈ xss1, xs.length ≤ maxLen) :
    Calls Try.prog 13 #[bsV n0 a0 c0 xss0, bsV n1 a1 c1 xss1] w (Gives w (.bool true)) := by
  replace m0_1 := Lib.hid m0_1
  replace m1_1 := Lib.hid m1_1
  by_cases hs0 : szM xss0 1048576 < 0
  · skip
    go_enter Try.func13, Try.ntmps13
    go_wp2_with fail
    refine (szGeneration_ok _ _ _ _ _ _ (r0_0.ext (((Ext.refl w).alloc _).alloc _)) m0_0 m0_1.out (by omega) (by omega)).mono ?_
    rintro e w1 ⟨rfl, e1⟩
    have E := (((Ext.refl w).alloc _).alloc _).trans e1
    have z0 := e1.size_le
    simp at z0
    have p0_0 := e1.cell (p := ⟨w.heap.size, 0, none⟩) (v := .int .i64 n0) (by simp)
    have p0_1 := e1.cell (p := ⟨w.heap.size, 1, none⟩) (v := .slice a0 xss0.length c0) (by simp)
    have p1_0 := e1.cell (p := ⟨w.heap.size + 1, 0, none⟩) (v := .int .i64 n1) (by simp)
    have p1_1 := e1.cell (p := ⟨w.heap.size + 1, 1, none⟩) (v := .slice a1 xss1.length c1) (by simp)
    go_wp2_with fail
    go_ret
    exact ⟨rfl, E⟩
  obtain ⟨hle0, heq0⟩ := szM_le (Int.not_lt.1 hs0)
  have hl0 : xss0.length ≤ 1048576 := by omega
  have hr0 : Hid (∀ xs ∈ xss0, xs.length ≤ 1048576) := fun xs hx => by have := rows_le hx; omega
  have ht0 : tot xss0 ≤ 1099511627776 := by omega
  have hu0 : tot xss0 ≤ 1048576 := by omega
  have hf0 : szM xss0 1048576 ≤ 1048576 := by omega
  have hg0 : 0 ≤ szM xss0 1048576 := by omega
  replace heq0 := Lib.hid heq0
  by_cases hs1 : szM xss1 (szM xss0 1048576) < 0
  · skip
    go_enter Try.func13, Try.ntmps13
    go_wp2_with fail
    refine (szGeneration_ok _ _ _ _ _ _ (r0_0.ext (((Ext.refl w).alloc _).alloc _)) m0_0 m0_1.out (by omega) (by omega)).mono ?_
    rintro e w1 ⟨rfl, e1⟩
    have E := (((Ext.refl w).alloc _).alloc _).trans e1
    have z0 := e1.size_le
    simp at z0
    have p0_0 := e1.cell (p := ⟨w.heap.size, 0, none⟩) (v := .int .i64 n0) (by simp)
    have p0_1 := e1.cell (p := ⟨w.heap.size, 1, none⟩) (v := .slice a0 xss0.length c0) (by simp)
    have p1_0 := e1.cell (p := ⟨w.heap.size + 1, 0, none⟩) (v := .int .i64 n1) (by simp)
    have p1_1 := e1.cell (p := ⟨w.heap.size + 1, 1, none⟩) (v := .slice a1 xss1.length c1) (by simp)
    go_wp2_with fail
    refine (szGeneration_ok _ _ _ _ _ _ (r1_0.ext (E)) m1_0 m1_1.out (by omega) (by omega)).mono ?_
    rintro e w2 ⟨rfl, e2⟩
    have z2 := e2.size_le
    replace p0_0 := e2.cell p0_0
    replace p0_1 := e2.cell p0_1
    replace p1_0 := e2.cell p1_0
    replace p1_1 := e2.cell p1_1
    replace E := E.trans e2
    clear e2
    go_wp2_with fail
    go_ret
    exact ⟨rfl, E⟩
  obtain ⟨hle1, heq1⟩ := szM_le (Int.not_lt.1 hs1)
  have hl1 : xss1.length ≤ 1048576 := by omega
  have hr1 : Hid (∀ xs ∈ xss1, xs.length ≤ 1048576) := fun xs hx => by have := rows_le hx; omega
  have ht1 : tot xss1 ≤ 1099511627776 := by omega
  have hu1 : tot xss1 ≤ 1048576 := by omega
  have hf1 : szM xss1 (szM xss0 1048576) ≤ 1048576 := by omega
  have hg1 : 0 ≤ szM xss1 (szM xss0 1048576) := by omega
  replace heq1 := Lib.hid heq1
  go_enter Try.func13, Try.ntmps13
  go_wp2_with fail
  refine (szGeneration_ok _ _ _ _ _ _ (r0_0.ext (((Ext.refl w).alloc _).alloc _)) m0_0 m0_1.out (by omega) (by omega)).mono ?_
  rintro e w1 ⟨rfl, e1⟩
  have E := (((Ext.refl w).alloc _).alloc _).trans e1
  have z0 := e1.size_le
  simp at z0
  have p0_0 := e1.cell (p := ⟨w.heap.size, 0, none⟩) (v := .int .i64 n0) (by simp)
  have p0_1 := e1.cell (p := ⟨w.heap.size, 1, none⟩) (v := .slice a0 xss0.length c0) (by simp)
  have p1_0 := e1.cell (p := ⟨w.heap.size + 1, 0, none⟩) (v := .int .i64 n1) (by simp)
  have p1_1 := e1.cell (p := ⟨w.heap.size + 1, 1, none⟩) (v := .slice a1 xss1.length c1) (by simp)
  go_wp2_with fail
  refine (szGeneration_ok _ _ _ _ _ _ (r1_0.ext (E)) m1_0 m1_1.out (by omega) (by omega)).mono ?_
  rintro e w2 ⟨rfl, e2⟩
  have z2 := e2.size_le
  replace p0_0 := e2.cell p0_0
  replace p0_1 := e2.cell p0_1
  replace p1_0 := e2.cell p1_0
  replace p1_1 := e2.cell p1_1
  replace E := E.trans e2
  clear e2
  go_wp2_with fail
  go_region_held3 (fun w' => w'.cell? ⟨w.heap.size, 0, none⟩ = some (.int .i64 n0) ∧ w'.cell? ⟨w.heap.size, 1, none⟩ = some (.slice a0 xss0.length c0) ∧ w'.cell? ⟨w.heap.size + 1, 0, none⟩ = some (.int .i64 n1) ∧ w'.cell? ⟨w.heap.size + 1, 1, none⟩ = some (.slice a1 xss1.length c1))
    (first | go_keep | exact ⟨(e5).cell ((e4).cell ((e3).cell (p0_0))), (e5).cell ((e4).cell ((e3).cell (p0_1))), (e5).cell ((e4).cell ((e3).cell (p1_0))), (e5).cell ((e4).cell ((e3).cell (p1_1)))⟩ | exact ⟨(e4).cell ((e3).cell (p0_0)), (e4).cell ((e3).cell (p0_1)), (e4).cell ((e3).cell (p1_0)), (e4).cell ((e3).cell (p1_1))⟩ | exact ⟨(e3).cell (p0_0), (e3).cell (p0_1), (e3).cell (p1_0), (e3).cell (p1_1)⟩)
    (first | (go_at_call 30; (with_reducible refine (toGeneration_ok _ _ _ _ _ (r0_0.ext (E.trans ((Ext.refl w2).drew))) hl0 hr0.out).mono ?_); rintro e w3 ⟨t3a, t3c, rfl, t3o, e3⟩) | (go_at_call 30; (with_reducible refine (toGeneration_ok _ _ _ _ _ (r1_0.ext (E.trans (((Ext.refl w2).drew).trans e3))) hl1 hr1.out).mono ?_); rintro e w4 ⟨t4a, t4c, rfl, t4o, e4⟩) | (go_at_call 48; (with_reducible refine (specEqualGenerations_ok _ _ _ _ _ _ _ _ _ ((t3o.reads).ext e4) (t4o.reads) hl0 hr0.out).mono ?_); rintro e w5 ⟨rfl, e5⟩))
  have z3 := (e3).size_le
  have z4 := (e4).size_le
  have z5 := (e5).size_le
  replace p0_0 := (e5).cell ((e4).cell ((e3).cell (p0_0)))
  replace p0_1 := (e5).cell ((e4).cell ((e3).cell (p0_1)))
  replace p1_0 := (e5).cell ((e4).cell ((e3).cell (p1_0)))
  replace p1_1 := (e5).cell ((e4).cell ((e3).cell (p1_1)))
  replace E := E.trans (((((Ext.refl w2).drew).trans e3).trans e4).trans e5)
  go_wp2_with fail
  refine (toGeneration_ok _ _ _ _ _ (r0_0.ext (E)) hl0 hr0.out).mono ?_
  rintro e w6 ⟨t6a, t6c, rfl, t6o, e6⟩
  have z6 := e6.size_le
  replace p0_0 := e6.cell p0_0
  replace p0_1 := e6.cell p0_1
  replace p1_0 := e6.cell p1_0
  replace p1_1 := e6.cell p1_1
  replace E := E.trans e6
  clear e6
  have y_p0_0 := ((Ext.refl w6).alloc (.cells #[.int .i64 n0, .slice t6a xss0.length t6c] 42)).cell p0_0
  have y_p0_1 := ((Ext.refl w6).alloc (.cells #[.int .i64 n0, .slice t6a xss0.length t6c] 42)).cell p0_1
  have y_p1_0 := ((Ext.refl w6).alloc (.cells #[.int .i64 n0, .slice t6a xss0.length t6c] 42)).cell p1_0
  have y_p1_1 := ((Ext.refl w6).alloc (.cells #[.int .i64 n0, .slice t6a xss0.length t6c] 42)).cell p1_1
  go_wp2_with fail
  refine (toGeneration_ok _ _ _ _ _ (r1_0.ext (E.alloc _)) hl1 hr1.out).mono ?_
  clear y_p0_0 y_p0_1 y_p1_0 y_p1_1
  rintro e w7 ⟨t7a, t7c, rfl, t7o, e7⟩
  have z7 := e7.size_le
  simp at z7
  replace p0_0 := (((Ext.refl w6).alloc _).trans e7).cell p0_0
  replace p0_1 := (((Ext.refl w6).alloc _).trans e7).cell p0_1
  replace p1_0 := (((Ext.refl w6).alloc _).trans e7).cell p1_0
  replace p1_1 := (((Ext.refl w6).alloc _).trans e7).cell p1_1
  replace t6o := t6o.ext (((Ext.refl w6).alloc _).trans e7)
  have x0_0 := e7.cell (p := ⟨w6.heap.size, 0, none⟩) (v := .int .i64 n0) (by simp)
  have x0_1 := e7.cell (p := ⟨w6.heap.size, 1, none⟩) (v := .slice t6a xss0.length t6c) (by simp)
  replace E := (E.alloc _).trans e7
  clear e7
  have y_p0_0 := ((Ext.refl w7).alloc (.cells #[.int .i64 n1, .slice t7a xss1.length t7c] 42)).cell p0_0
  have y_p0_1 := ((Ext.refl w7).alloc (.cells #[.int .i64 n1, .slice t7a xss1.length t7c] 42)).cell p0_1
  have y_p1_0 := ((Ext.refl w7).alloc (.cells #[.int .i64 n1, .slice t7a xss1.length t7c] 42)).cell p1_0
  have y_p1_1 := ((Ext.refl w7).alloc (.cells #[.int .i64 n1, .slice t7a xss1.length t7c] 42)).cell p1_1
  have y_x0_0 := ((Ext.refl w7).alloc (.cells #[.int .i64 n1, .slice t7a xss1.length t7c] 42)).cell x0_0
  have y_x0_1 := ((Ext.refl w7).alloc (.cells #[.int .i64 n1, .slice t7a xss1.length t7c] 42)).cell x0_1
  go_wp2_with fail
  refine (implEqualGenerations_ok _ _ _ _ _ _ _ _ _ ((t6o.reads).ext ((Ext.refl _).alloc _)) ((t7o.reads).ext ((Ext.refl _).alloc _)) hl0 hr0.out).mono ?_
  clear y_p0_0 y_p0_1 y_p1_0 y_p1_1 y_x0_0 y_x0_1
  rintro e w8 ⟨rfl, e8⟩
  have z8 := e8.size_le
  simp at z8
  replace p0_0 := (((Ext.refl w7).alloc _).trans e8).cell p0_0
  replace p0_1 := (((Ext.refl w7).alloc _).trans e8).cell p0_1
  replace p1_0 := (((Ext.refl w7).alloc _).trans e8).cell p1_0
  replace p1_1 := (((Ext.refl w7).alloc _).trans e8).cell p1_1
  replace x0_0 := (((Ext.refl w7).alloc _).trans e8).cell x0_0
  replace x0_1 := (((Ext.refl w7).alloc _).trans e8).cell x0_1
  replace t6o := t6o.ext (((Ext.refl w7).alloc _).trans e8)
  replace t7o := t7o.ext (((Ext.refl w7).alloc _).trans e8)
  have x1_0 := e8.cell (p := ⟨w7.heap.size, 0, none⟩) (v := .int .i64 n1) (by simp)
  have x1_1 := e8.cell (p := ⟨w7.heap.size, 1, none⟩) (v := .slice t7a xss1.length t7c) (by simp)
  replace E := (E.alloc _).trans e8
  clear e8
  have q0 : ((eqB n0 xss0 n1 xss1) != (eqB n0 xss0 n1 xss1)) = false := by simp
  have qe0 := eqB_self n0 xss0
  have qe1 := eqB_self n1 xss1
  go_wp2_with fail
  go_region_held3 (fun w' => w'.cell? ⟨w.heap.size, 0, none⟩ = some (.int .i64 n0) ∧ w'.cell? ⟨w.heap.size, 1, none⟩ = some (.slice a0 xss0.length c0) ∧ w'.cell? ⟨w.heap.size + 1, 0, none⟩ = some (.int .i64 n1) ∧ w'.cell? ⟨w.heap.size + 1, 1, none⟩ = some (.slice a1 xss1.length c1) ∧ w'.cell? ⟨w6.heap.size, 0, none⟩ = some (.int .i64 n0) ∧ w'.cell? ⟨w6.heap.size, 1, none⟩ = some (.slice t6a xss0.length t6c) ∧ w'.cell? ⟨w7.heap.size, 0, none⟩ = some (.int .i64 n1) ∧ w'.cell? ⟨w7.heap.size, 1, none⟩ = some (.slice t7a xss1.length t7c))
    (first | go_keep | exact ⟨(e10).cell ((e9).cell (p0_0)), (e10).cell ((e9).cell (p0_1)), (e10).cell ((e9).cell (p1_0)), (e10).cell ((e9).cell (p1_1)), (e10).cell ((e9).cell (x0_0)), (e10).cell ((e9).cell (x0_1)), (e10).cell ((e9).cell (x1_0)), (e10).cell ((e9).cell (x1_1))⟩ | exact ⟨(e9).cell (p0_0), (e9).cell (p0_1), (e9).cell (p1_0), (e9).cell (p1_1), (e9).cell (x0_0), (e9).cell (x0_1), (e9).cell (x1_0), (e9).cell (x1_1)⟩)
    (first | (go_at_call 30; (with_reducible refine (toGeneration_ok _ _ _ _ _ (r0_0.ext (E.trans ((Ext.refl w8).drew))) hl0 hr0.out).mono ?_); rintro e w9 ⟨t9a, t9c, rfl, t9o, e9⟩) | (go_at_call 32; (with_reducible refine (eqGeneration_ok _ _ _ _ _ _ _ _ _ ((t6o.reads).ext (((Ext.refl w8).drew).trans e9)) (t9o.reads) hl0 hr0.out).mono ?_); rintro e w10 ⟨rfl, e10⟩))
  have z9 := (e9).size_le
  have z10 := (e10).size_le
  replace p0_0 := (e10).cell ((e9).cell (p0_0))
  replace p0_1 := (e10).cell ((e9).cell (p0_1))
  replace p1_0 := (e10).cell ((e9).cell (p1_0))
  replace p1_1 := (e10).cell ((e9).cell (p1_1))
  replace x0_0 := (e10).cell ((e9).cell (x0_0))
  replace x0_1 := (e10).cell ((e9).cell (x0_1))
  replace x1_0 := (e10).cell ((e9).cell (x1_0))
  replace x1_1 := (e10).cell ((e9).cell (x1_1))
  replace t6o := t6o.ext ((((Ext.refl w8).drew).trans e9).trans e10)
  replace t7o := t7o.ext ((((Ext.refl w8).drew).trans e9).trans e10)
  replace E := E.trans ((((Ext.refl w8).drew).trans e9).trans e10)
  go_wp2_with fail
  go_region_held3 (fun w' => w'.cell? ⟨w.heap.size, 0, none⟩ = some (.int .i64 n0) ∧ w'.cell? ⟨w.heap.size, 1, none⟩ = some (.slice a0 xss0.length c0) ∧ w'.cell? ⟨w.heap.size + 1, 0, none⟩ = some (.int .i64 n1) ∧ w'.cell? ⟨w.heap.size + 1, 1, none⟩ = some (.slice a1 xss1.length c1) ∧ w'.cell? ⟨w6.heap.size, 0, none⟩ = some (.int .i64 n0) ∧ w'.cell? ⟨w6.heap.size, 1, none⟩ = some (.slice t6a xss0.length t6c) ∧ w'.cell? ⟨w7.heap.size, 0, none⟩ = some (.int .i64 n1) ∧ w'.cell? ⟨w7.heap.size, 1, none⟩ = some (.slice t7a xss1.length t7c))
    (first | go_keep | exact ⟨(e12).cell ((e11).cell (p0_0)), (e12).cell ((e11).cell (p0_1)), (e12).cell ((e11).cell (p1_0)), (e12).cell ((e11).cell (p1_1)), (e12).cell ((e11).cell (x0_0)), (e12).cell ((e11).cell (x0_1)), (e12).cell ((e11).cell (x1_0)), (e12).cell ((e11).cell (x1_1))⟩ | exact ⟨(e11).cell (p0_0), (e11).cell (p0_1), (e11).cell (p1_0), (e11).cell (p1_1), (e11).cell (x0_0), (e11).cell (x0_1), (e11).cell (x1_0), (e11).cell (x1_1)⟩)
    (first | (go_at_call 30; (with_reducible refine (toGeneration_ok _ _ _ _ _ (r1_0.ext (E.trans ((Ext.refl w10).drew))) hl1 hr1.out).mono ?_); rintro e w11 ⟨t11a, t11c, rfl, t11o, e11⟩) | (go_at_call 32; (with_reducible refine (eqGeneration_ok _ _ _ _ _ _ _ _ _ ((t7o.reads).ext (((Ext.refl w10).drew).trans e11)) (t11o.reads) hl1 hr1.out).mono ?_); rintro e w12 ⟨rfl, e12⟩))
  have z11 := (e11).size_le
  have z12 := (e12).size_le
  replace p0_0 := (e12).cell ((e11).cell (p0_0))
  replace p0_1 := (e12).cell ((e11).cell (p0_1))
  replace p1_0 := (e12).cell ((e11).cell (p1_0))
  replace p1_1 := (e12).cell ((e11).cell (p1_1))
  replace x0_0 := (e12).cell ((e11).cell (x0_0))
  replace x0_1 := (e12).cell ((e11).cell (x0_1))
  replace x1_0 := (e12).cell ((e11).cell (x1_0))
  replace x1_1 := (e12).cell ((e11).cell (x1_1))
  replace t6o := t6o.ext ((((Ext.refl w10).drew).trans e11).trans e12)
  replace t7o := t7o.ext ((((Ext.refl w10).drew).trans e11).trans e12)
  replace E := E.trans ((((Ext.refl w10).drew).trans e11).trans e12)
  go_wp2_with fail
  go_ret
  exact ⟨rfl, E⟩

set_option maxHeartbeats 4000000 in
set_option maxRecDepth 100000 in
theorem lawEqualBases (n0 : Int) (a0 : Option Addr) (c0 : Nat) (xss0 : List (List Int)) (n1 : Int) (a1 : Option Addr) (c1 : Nat) (xss1 : List (List Int)) (w : World) (r0_0 : MatR w a0 xss0) (r1_0 : MatR w a1 xss1) (m0_0 : xss0.length ≤ maxLen) (m0_1 : ∀ xs ∈ xss0, xs.length ≤ maxLen) (m1_0 : xss1.length ≤ maxLen) (m1_1 : ∀ xs ∈ xss1, xs.length ≤ maxLen) :
    Calls Try.prog 12 #[bsV n0 a0 c0 xss0, bsV n1 a1 c1 xss1] w (Gives w (.bool true)) := by
  replace m0_1 := Lib.hid m0_1
  replace m1_1 := Lib.hid m1_1
  by_cases hs0 : szM xss0 1048576 < 0
  · skip
    go_enter Try.func12, Try.ntmps12
    go_wp2_with fail
    refine (szBasis_ok _ _ _ _ _ _ (r0_0.ext (((Ext.refl w).alloc _).alloc _)) m0_0 m0_1.out (by omega) (by omega)).mono ?_
    rintro e w1 ⟨rfl, e1⟩
    have E := (((Ext.refl w).alloc _).alloc _).trans e1
    have z0 := e1.size_le
    simp at z0
    have p0_0 := e1.cell (p := ⟨w.heap.size, 0, none⟩) (v := .int .i64 n0) (by simp)
    have p0_1 := e1.cell (p := ⟨w.heap.size, 1, none⟩) (v := .slice a0 xss0.length c0) (by simp)
    have p1_0 := e1.cell (p := ⟨w.heap.size + 1, 0, none⟩) (v := .int .i64 n1) (by simp)
    have p1_1 := e1.cell (p := ⟨w.heap.size + 1, 1, none⟩) (v := .slice a1 xss1.length c1) (by simp)
    go_wp2_with fail
    go_ret
    exact ⟨rfl, E⟩
  obtain ⟨hle0, heq0⟩ := szM_le (Int.not_lt.1 hs0)
  have hl0 : xss0.length ≤ 1048576 := by omega
  have hr0 : Hid (∀ xs ∈ xss0, xs.length ≤ 1048576) := fun xs hx => by have := rows_le hx; omega
  have ht0 : tot xss0 ≤ 1099511627776 := by omega
  have hu0 : tot xss0 ≤ 1048576 := by omega
  have hf0 : szM xss0 1048576 ≤ 1048576 := by omega
  have hg0 : 0 ≤ szM xss0 1048576 := by omega
  replace heq0 := Lib.hid heq0
  by_cases hs1 : szM xss1 (szM xss0 1048576) < 0
  · skip
    go_enter Try.func12, Try.ntmps12
    go_wp2_with fail
    refine (szBasis_ok _ _ _ _ _ _ (r0_0.ext (((Ext.refl w).alloc _).alloc _)) m0_0 m0_1.out (by omega) (by omega)).mono ?_
    rintro e w1 ⟨rfl, e1⟩
    have E := (((Ext.refl w).alloc _).alloc _).trans e1
    have z0 := e1.size_le
    simp at z0
    have p0_0 := e1.cell (p := ⟨w.heap.size, 0, none⟩) (v := .int .i64 n0) (by simp)
    have p0_1 := e1.cell (p := ⟨w.heap.size, 1, none⟩) (v := .slice a0 xss0.length c0) (by simp)
    have p1_0 := e1.cell (p := ⟨w.heap.size + 1, 0, none⟩) (v := .int .i64 n1) (by simp)
    have p1_1 := e1.cell (p := ⟨w.heap.size + 1, 1, none⟩) (v := .slice a1 xss1.length c1) (by simp)
    go_wp2_with fail
    refine (szBasis_ok _ _ _ _ _ _ (r1_0.ext (E)) m1_0 m1_1.out (by omega) (by omega)).mono ?_
    rintro e w2 ⟨rfl, e2⟩
    have z2 := e2.size_le
    replace p0_0 := e2.cell p0_0
    replace p0_1 := e2.cell p0_1
    replace p1_0 := e2.cell p1_0
    replace p1_1 := e2.cell p1_1
    replace E := E.trans e2
    clear e2
    go_wp2_with fail
    go_ret
    exact ⟨rfl, E⟩
  obtain ⟨hle1, heq1⟩ := szM_le (Int.not_lt.1 hs1)
  have hl1 : xss1.length ≤ 1048576 := by omega
  have hr1 : Hid (∀ xs ∈ xss1, xs.length ≤ 1048576) := fun xs hx => by have := rows_le hx; omega
  have ht1 : tot xss1 ≤ 1099511627776 := by omega
  have hu1 : tot xss1 ≤ 1048576 := by omega
  have hf1 : szM xss1 (szM xss0 1048576) ≤ 1048576 := by omega
  have hg1 : 0 ≤ szM xss1 (szM xss0 1048576) := by omega
  replace heq1 := Lib.hid heq1
  go_enter Try.func12, Try.ntmps12
  go_wp2_with fail
  refine (szBasis_ok _ _ _ _ _ _ (r0_0.ext (((Ext.refl w).alloc _).alloc _)) m0_0 m0_1.out (by omega) (by omega)).mono ?_
  rintro e w1 ⟨rfl, e1⟩
  have E := (((Ext.refl w).alloc _).alloc _).trans e1
  have z0 := e1.size_le
  simp at z0
  have p0_0 := e1.cell (p := ⟨w.heap.size, 0, none⟩) (v := .int .i64 n0) (by simp)
  have p0_1 := e1.cell (p := ⟨w.heap.size, 1, none⟩) (v := .slice a0 xss0.length c0) (by simp)
  have p1_0 := e1.cell (p := ⟨w.heap.size + 1, 0, none⟩) (v := .int .i64 n1) (by simp)
  have p1_1 := e1.cell (p := ⟨w.heap.size + 1, 1, none⟩) (v := .slice a1 xss1.length c1) (by simp)
  go_wp2_with fail
  refine (szBasis_ok _ _ _ _ _ _ (r1_0.ext (E)) m1_0 m1_1.out (by omega) (by omega)).mono ?_
  rintro e w2 ⟨rfl, e2⟩
  have z2 := e2.size_le
  replace p0_0 := e2.cell p0_0
  replace p0_1 := e2.cell p0_1
  replace p1_0 := e2.cell p1_0
  replace p1_1 := e2.cell p1_1
  replace E := E.trans e2
  clear e2
  go_wp2_with fail
  go_region_held3 (fun w' => w'.cell? ⟨w.heap.size, 0, none⟩ = some (.int .i64 n0) ∧ w'.cell? ⟨w.heap.size, 1, none⟩ = some (.slice a0 xss0.length c0) ∧ w'.cell? ⟨w.heap.size + 1, 0, none⟩ = some (.int .i64 n1) ∧ w'.cell? ⟨w.heap.size + 1, 1, none⟩ = some (.slice a1 xss1.length c1))
    (first | go_keep | exact ⟨(e5).cell ((e4).cell ((e3).cell (p0_0))), (e5).cell ((e4).cell ((e3).cell (p0_1))), (e5).cell ((e4).cell ((e3).cell (p1_0))), (e5).cell ((e4).cell ((e3).cell (p1_1)))⟩ | exact ⟨(e4).cell ((e3).cell (p0_0)), (e4).cell ((e3).cell (p0_1)), (e4).cell ((e3).cell (p1_0)), (e4).cell ((e3).cell (p1_1))⟩ | exact ⟨(e3).cell (p0_0), (e3).cell (p0_1), (e3).cell (p1_0), (e3).cell (p1_1)⟩)
    (first | (go_at_call 46; (with_reducible refine (toBasis_ok _ _ _ _ _ (r0_0.ext (E.trans ((Ext.refl w2).drew))) hl0 hr0.out).mono ?_); rintro e w3 ⟨t3a, t3c, rfl, t3o, e3⟩) | (go_at_call 46; (with_reducible refine (toBasis_ok _ _ _ _ _ (r1_0.ext (E.trans (((Ext.refl w2).drew).trans e3))) hl1 hr1.out).mono ?_); rintro e w4 ⟨t4a, t4c, rfl, t4o, e4⟩) | (go_at_call 45; (with_reducible refine (specEqualBases_ok _ _ _ _ _ _ _ _ _ ((t3o.reads).ext e4) (t4o.reads) hl0 hr0.out).mono ?_); rintro e w5 ⟨rfl, e5⟩))
  have z3 := (e3).size_le
  have z4 := (e4).size_le
  have z5 := (e5).size_le
  replace p0_0 := (e5).cell ((e4).cell ((e3).cell (p0_0)))
  replace p0_1 := (e5).cell ((e4).cell ((e3).cell (p0_1)))
  replace p1_0 := (e5).cell ((e4).cell ((e3).cell (p1_0)))
  replace p1_1 := (e5).cell ((e4).cell ((e3).cell (p1_1)))
  replace E := E.trans (((((Ext.refl w2).drew).trans e3).trans e4).trans e5)
  go_wp2_with fail
  refine (toBasis_ok _ _ _ _ _ (r0_0.ext (E)) hl0 hr0.out).mono ?_
  rintro e w6 ⟨t6a, t6c, rfl, t6o, e6⟩
  have z6 := e6.size_le
  replace p0_0 := e6.cell p0_0
  replace p0_1 := e6.cell p0_1
  replace p1_0 := e6.cell p1_0
  replace p1_1 := e6.cell p1_1
  replace E := E.trans e6
  clear e6
  have y_p0_0 := ((Ext.refl w6).alloc (.cells #[.int .i64 n0, .slice t6a xss0.length t6c] 50)).cell p0_0
  have y_p0_1 := ((Ext.refl w6).alloc (.cells #[.int .i64 n0, .slice t6a xss0.length t6c] 50)).cell p0_1
  have y_p1_0 := ((Ext.refl w6).alloc (.cells #[.int .i64 n0, .slice t6a xss0.length t6c] 50)).cell p1_0
  have y_p1_1 := ((Ext.refl w6).alloc (.cells #[.int .i64 n0, .slice t6a xss0.length t6c] 50)).cell p1_1
  go_wp2_with fail
  refine (toBasis_ok _ _ _ _ _ (r1_0.ext (E.alloc _)) hl1 hr1.out).mono ?_
  clear y_p0_0 y_p0_1 y_p1_0 y_p1_1
  rintro e w7 ⟨t7a, t7c, rfl, t7o, e7⟩
  have z7 := e7.size_le
  simp at z7
  replace p0_0 := (((Ext.refl w6).alloc _).trans e7).cell p0_0
  replace p0_1 := (((Ext.refl w6).alloc _).trans e7).cell p0_1
  replace p1_0 := (((Ext.refl w6).alloc _).trans e7).cell p1_0
  replace p1_1 := (((Ext.refl w6).alloc _).trans e7).cell p1_1
  replace t6o := t6o.ext (((Ext.refl w6).alloc _).trans e7)
  have x0_0 := e7.cell (p := ⟨w6.heap.size, 0, none⟩) (v := .int .i64 n0) (by simp)
  have x0_1 := e7.cell (p := ⟨w6.heap.size, 1, none⟩) (v := .slice t6a xss0.length t6c) (by simp)
  replace E := (E.alloc _).trans e7
  clear e7
  have y_p0_0 := ((Ext.refl w7).alloc (.cells #[.int .i64 n1, .slice t7a xss1.length t7c] 50)).cell p0_0
  have y_p0_1 := ((Ext.refl w7).alloc (.cells #[.int .i64 n1, .slice t7a xss1.length t7c] 50)).cell p0_1
  have y_p1_0 := ((Ext.refl w7).alloc (.cells #[.int .i64 n1, .slice t7a xss1.length t7c] 50)).cell p1_0
  have y_p1_1 := ((Ext.refl w7).alloc (.cells #[.int .i64 n1, .slice t7a xss1.length t7c] 50)).cell p1_1
  have y_x0_0 := ((Ext.refl w7).alloc (.cells #[.int .i64 n1, .slice t7a xss1.length t7c] 50)).cell x0_0
  have y_x0_1 := ((Ext.refl w7).alloc (.cells #[.int .i64 n1, .slice t7a xss1.length t7c] 50)).cell x0_1
  go_wp2_with fail
  refine (implEqualBases_ok _ _ _ _ _ _ _ _ _ ((t6o.reads).ext ((Ext.refl _).alloc _)) ((t7o.reads).ext ((Ext.refl _).alloc _)) hl0 hr0.out).mono ?_
  clear y_p0_0 y_p0_1 y_p1_0 y_p1_1 y_x0_0 y_x0_1
  rintro e w8 ⟨rfl, e8⟩
  have z8 := e8.size_le
  simp at z8
  replace p0_0 := (((Ext.refl w7).alloc _).trans e8).cell p0_0
  replace p0_1 := (((Ext.refl w7).alloc _).trans e8).cell p0_1
  replace p1_0 := (((Ext.refl w7).alloc _).trans e8).cell p1_0
  replace p1_1 := (((Ext.refl w7).alloc _).trans e8).cell p1_1
  replace x0_0 := (((Ext.refl w7).alloc _).trans e8).cell x0_0
  replace x0_1 := (((Ext.refl w7).alloc _).trans e8).cell x0_1
  replace t6o := t6o.ext (((Ext.refl w7).alloc _).trans e8)
  replace t7o := t7o.ext (((Ext.refl w7).alloc _).trans e8)
  have x1_0 := e8.cell (p := ⟨w7.heap.size, 0, none⟩) (v := .int .i64 n1) (by simp)
  have x1_1 := e8.cell (p := ⟨w7.heap.size, 1, none⟩) (v := .slice t7a xss1.length t7c) (by simp)
  replace E := (E.alloc _).trans e8
  clear e8
  have q0 : ((eqB n0 xss0 n1 xss1) != (eqB n0 xss0 n1 xss1)) = false := by simp
  have qe0 := eqB_self n0 xss0
  have qe1 := eqB_self n1 xss1
  go_wp2_with fail
  go_region_held3 (fun w' => w'.cell? ⟨w.heap.size, 0, none⟩ = some (.int .i64 n0) ∧ w'.cell? ⟨w.heap.size, 1, none⟩ = some (.slice a0 xss0.length c0) ∧ w'.cell? ⟨w.heap.size + 1, 0, none⟩ = some (.int .i64 n1) ∧ w'.cell? ⟨w.heap.size + 1, 1, none⟩ = some (.slice a1 xss1.length c1) ∧ w'.cell? ⟨w6.heap.size, 0, none⟩ = some (.int .i64 n0) ∧ w'.cell? ⟨w6.heap.size, 1, none⟩ = some (.slice t6a xss0.length t6c) ∧ w'.cell? ⟨w7.heap.size, 0, none⟩ = some (.int .i64 n1) ∧ w'.cell? ⟨w7.heap.size, 1, none⟩ = some (.slice t7a xss1.length t7c))
    (first | go_keep | exact ⟨(e10).cell ((e9).cell (p0_0)), (e10).cell ((e9).cell (p0_1)), (e10).cell ((e9).cell (p1_0)), (e10).cell ((e9).cell (p1_1)), (e10).cell ((e9).cell (x0_0)), (e10).cell ((e9).cell (x0_1)), (e10).cell ((e9).cell (x1_0)), (e10).cell ((e9).cell (x1_1))⟩ | exact ⟨(e9).cell (p0_0), (e9).cell (p0_1), (e9).cell (p1_0), (e9).cell (p1_1), (e9).cell (x0_0), (e9).cell (x0_1), (e9).cell (x1_0), (e9).cell (x1_1)⟩)
    (first | (go_at_call 46; (with_reducible refine (toBasis_ok _ _ _ _ _ (r0_0.ext (E.trans ((Ext.refl w8).drew))) hl0 hr0.out).mono ?_); rintro e w9 ⟨t9a, t9c, rfl, t9o, e9⟩) | (go_at_call 39; (with_reducible refine (eqBasis_ok _ _ _ _ _ _ _ _ _ ((t6o.reads).ext (((Ext.refl w8).drew).trans e9)) (t9o.reads) hl0 hr0.out).mono ?_); rintro e w10 ⟨rfl, e10⟩))
  have z9 := (e9).size_le
  have z10 := (e10).size_le
  replace p0_0 := (e10).cell ((e9).cell (p0_0))
  replace p0_1 := (e10).cell ((e9).cell (p0_1))
  replace p1_0 := (e10).cell ((e9).cell (p1_0))
  replace p1_1 := (e10).cell ((e9).cell (p1_1))
  replace x0_0 := (e10).cell ((e9).cell (x0_0))
  replace x0_1 := (e10).cell ((e9).cell (x0_1))
  replace x1_0 := (e10).cell ((e9).cell (x1_0))
  replace x1_1 := (e10).cell ((e9).cell (x1_1))
  replace t6o := t6o.ext ((((Ext.refl w8).drew).trans e9).trans e10)
  replace t7o := t7o.ext ((((Ext.refl w8).drew).trans e9).trans e10)
  replace E := E.trans ((((Ext.refl w8).drew).trans e9).trans e10)
  go_wp2_with fail
  go_region_held3 (fun w' => w'.cell? ⟨w.heap.size, 0, none⟩ = some (.int .i64 n0) ∧ w'.cell? ⟨w.heap.size, 1, none⟩ = some (.slice a0 xss0.length c0) ∧ w'.cell? ⟨w.heap.size + 1, 0, none⟩ = some (.int .i64 n1) ∧ w'.cell? ⟨w.heap.size + 1, 1, none⟩ = some (.slice a1 xss1.length c1) ∧ w'.cell? ⟨w6.heap.size, 0, none⟩ = some (.int .i64 n0) ∧ w'.cell? ⟨w6.heap.size, 1, none⟩ = some (.slice t6a xss0.length t6c) ∧ w'.cell? ⟨w7.heap.size, 0, none⟩ = some (.int .i64 n1) ∧ w'.cell? ⟨w7.heap.size, 1, none⟩ = some (.slice t7a xss1.length t7c))
    (first | go_keep | exact ⟨(e12).cell ((e11).cell (p0_0)), (e12).cell ((e11).cell (p0_1)), (e12).cell ((e11).cell (p1_0)), (e12).cell ((e11).cell (p1_1)), (e12).cell ((e11).cell (x0_0)), (e12).cell ((e11).cell (x0_1)), (e12).cell ((e11).cell (x1_0)), (e12).cell ((e11).cell (x1_1))⟩ | exact ⟨(e11).cell (p0_0), (e11).cell (p0_1), (e11).cell (p1_0), (e11).cell (p1_1), (e11).cell (x0_0), (e11).cell (x0_1), (e11).cell (x1_0), (e11).cell (x1_1)⟩)
    (first | (go_at_call 46; (with_reducible refine (toBasis_ok _ _ _ _ _ (r1_0.ext (E.trans ((Ext.refl w10).drew))) hl1 hr1.out).mono ?_); rintro e w11 ⟨t11a, t11c, rfl, t11o, e11⟩) | (go_at_call 39; (with_reducible refine (eqBasis_ok _ _ _ _ _ _ _ _ _ ((t7o.reads).ext (((Ext.refl w10).drew).trans e11)) (t11o.reads) hl1 hr1.out).mono ?_); rintro e w12 ⟨rfl, e12⟩))
  have z11 := (e11).size_le
  have z12 := (e12).size_le
  replace p0_0 := (e12).cell ((e11).cell (p0_0))
  replace p0_1 := (e12).cell ((e11).cell (p0_1))
  replace p1_0 := (e12).cell ((e11).cell (p1_0))
  replace p1_1 := (e12).cell ((e11).cell (p1_1))
  replace x0_0 := (e12).cell ((e11).cell (x0_0))
  replace x0_1 := (e12).cell ((e11).cell (x0_1))
  replace x1_0 := (e12).cell ((e11).cell (x1_0))
  replace x1_1 := (e12).cell ((e11).cell (x1_1))
  replace t6o := t6o.ext ((((Ext.refl w10).drew).trans e11).trans e12)
  replace t7o := t7o.ext ((((Ext.refl w10).drew).trans e11).trans e12)
  replace E := E.trans ((((Ext.refl w10).drew).trans e11).trans e12)
  go_wp2_with fail
  go_ret
  exact ⟨rfl, E⟩

end Go.Proofs.Ytcdfkkmbefjaaaa
