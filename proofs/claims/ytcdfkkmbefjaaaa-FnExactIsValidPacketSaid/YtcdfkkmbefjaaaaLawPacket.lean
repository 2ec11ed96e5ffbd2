/- The laws over coded packets whose result is a bool. -/
import Derived.Test.YtcdfkkmbefjaaaaPairs
import Derived.Deep.RegionHeld3
namespace Go.Proofs.Ytcdfkkmbefjaaaa
open Go.RowKit
set_option linter.unusedVariables false

set_option maxHeartbeats 4000000 in
set_option maxRecDepth 100000 in
theorem lawIsZeroPacket (n0 : Int) (a0 : Option Addr) (c0 : Nat) (xs0 : List Int) (b0 : Option Addr) (d0 : Nat) (ys0 : List Int) (w : World) (r0_0 : Vals w a0 (I xs0)) (r0_1 : Vals w b0 (I ys0)) (m0_0 : xs0.length ≤ maxLen) (m0_1 : ys0.length ≤ maxLen) :
    Calls Try.prog 6 #[pkV n0 a0 c0 xs0 b0 d0 ys0] w (Gives w (.bool true)) := by
  by_cases hs0 : szPk xs0 ys0 1048576 < 0
  · skip
    go_enter Try.func6, Try.ntmps6
    go_wp2_with fail
    refine (szCodedPacket_ok _ _ _ _ _ _ _ _ _ m0_0 m0_1 (by omega) (by omega)).mono ?_
    rintro e w1 ⟨rfl, e1⟩
    have E := ((Ext.refl w).alloc _).trans e1
    have z0 := e1.size_le
    simp at z0
    have p0_0 := e1.cell (p := ⟨w.heap.size, 0, none⟩) (v := .int .i64 n0) (by simp)
    have p0_1 := e1.cell (p := ⟨w.heap.size, 1, none⟩) (v := .slice a0 xs0.length c0) (by simp)
    have p0_2 := e1.cell (p := ⟨w.heap.size, 2, none⟩) (v := .slice b0 ys0.length d0) (by simp)
    go_wp2_with fail
    go_ret
    exact ⟨rfl, E⟩
  obtain ⟨hle0, heq0⟩ := szPk_le (Int.not_lt.1 hs0)
  have hl0 : xs0.length ≤ 1048576 := by omega
  have hk0 : ys0.length ≤ 1048576 := by omega
  have hf0 : szPk xs0 ys0 1048576 ≤ 1048576 := by omega
  have hg0 : 0 ≤ szPk xs0 ys0 1048576 := by omega
  replace heq0 := Lib.hid heq0
  go_enter Try.func6, Try.ntmps6
  go_wp2_with fail
  refine (szCodedPacket_ok _ _ _ _ _ _ _ _ _ m0_0 m0_1 (by omega) (by omega)).mono ?_
  rintro e w1 ⟨rfl, e1⟩
  have E := ((Ext.refl w).alloc _).trans e1
  have z0 := e1.size_le
  simp at z0
  have p0_0 := e1.cell (p := ⟨w.heap.size, 0, none⟩) (v := .int .i64 n0) (by simp)
  have p0_1 := e1.cell (p := ⟨w.heap.size, 1, none⟩) (v := .slice a0 xs0.length c0) (by simp)
  have p0_2 := e1.cell (p := ⟨w.heap.size, 2, none⟩) (v := .slice b0 ys0.length d0) (by simp)
  go_wp2_with fail
  refine (toCodedPacket_ok _ _ _ _ _ _ _ _ (r0_0.ext (E)) (r0_1.ext (E)) hl0 hk0).mono ?_
  rintro e w2 ⟨t2a, t2c, t2b, t2d, rfl, t2o, t2p, t2x, e2⟩
  have z2 := e2.size_le
  replace p0_0 := e2.cell p0_0
  replace p0_1 := e2.cell p0_1
  replace p0_2 := e2.cell p0_2
  replace E := E.trans e2
  clear e2
  replace t2o := OPk.of t2o t2p t2x
  go_wp2_with fail
  refine (specIsZeroPacket_ok _ _ _ _ _ _ _ _ (t2o.one) (t2o.two) hl0 hk0).mono ?_
  rintro e w3 ⟨rfl, e3⟩
  have z3 := e3.size_le
  replace p0_0 := e3.cell p0_0
  replace p0_1 := e3.cell p0_1
  replace p0_2 := e3.cell p0_2
  replace t2o := t2o.ext e3
  replace E := E.trans e3
  clear e3
  go_wp2_with fail
  refine (toCodedPacket_ok _ _ _ _ _ _ _ _ (r0_0.ext (E)) (r0_1.ext (E)) hl0 hk0).mono ?_
  rintro e w4 ⟨t4a, t4c, t4b, t4d, rfl, t4o, t4p, t4x, e4⟩
  have z4 := e4.size_le
  replace p0_0 := e4.cell p0_0
  replace p0_1 := e4.cell p0_1
  replace p0_2 := e4.cell p0_2
  replace E := E.trans e4
  clear e4
  replace t4o := OPk.of t4o t4p t4x
  have y_p0_0 := ((Ext.refl w4).alloc (.cells #[.int .i64 n0, .slice t4a xs0.length t4c, .slice t4b ys0.length t4d] 33)).cell p0_0
  have y_p0_1 := ((Ext.refl w4).alloc (.cells #[.int .i64 n0, .slice t4a xs0.length t4c, .slice t4b ys0.length t4d] 33)).cell p0_1
  have y_p0_2 := ((Ext.refl w4).alloc (.cells #[.int .i64 n0, .slice t4a xs0.length t4c, .slice t4b ys0.length t4d] 33)).cell p0_2
  go_wp2_with fail
  refine (implIsZeroPacket_ok _ _ _ _ _ _ _ _ ((t4o.one).ext ((Ext.refl _).alloc _)) ((t4o.two).ext ((Ext.refl _).alloc _)) hl0 hk0).mono ?_
  clear y_p0_0 y_p0_1 y_p0_2
  rintro e w5 ⟨rfl, e5⟩
  have z5 := e5.size_le
  simp at z5
  replace p0_0 := (((Ext.refl w4).alloc _).trans e5).cell p0_0
  replace p0_1 := (((Ext.refl w4).alloc _).trans e5).cell p0_1
  replace p0_2 := (((Ext.refl w4).alloc _).trans e5).cell p0_2
  replace t4o := t4o.ext (((Ext.refl w4).alloc _).trans e5)
  have x0_0 := e5.cell (p := ⟨w4.heap.size, 0, none⟩) (v := .int .i64 n0) (by simp)
  have x0_1 := e5.cell (p := ⟨w4.heap.size, 1, none⟩) (v := .slice t4a xs0.length t4c) (by simp)
  have x0_2 := e5.cell (p := ⟨w4.heap.size, 2, none⟩) (v := .slice t4b ys0.length t4d) (by simp)
  replace E := (E.alloc _).trans e5
  clear e5
  have q0 : ((zeroPk xs0 ys0) != (zeroPk xs0 ys0)) = false := by simp
  have qe0 := eqPk_self n0 xs0 ys0
  go_wp2_with fail
  go_region_held3 (fun w' => w'.cell? ⟨w.heap.size, 0, none⟩ = some (.int .i64 n0) ∧ w'.cell? ⟨w.heap.size, 1, none⟩ = some (.slice a0 xs0.length c0) ∧ w'.cell? ⟨w.heap.size, 2, none⟩ = some (.slice b0 ys0.length d0) ∧ w'.cell? ⟨w4.heap.size, 0, none⟩ = some (.int .i64 n0) ∧ w'.cell? ⟨w4.heap.size, 1, none⟩ = some (.slice t4a xs0.length t4c) ∧ w'.cell? ⟨w4.heap.size, 2, none⟩ = some (.slice t4b ys0.length t4d))
    (first | go_keep | exact ⟨(e7).cell ((e6).cell (p0_0)), (e7).cell ((e6).cell (p0_1)), (e7).cell ((e6).cell (p0_2)), (e7).cell ((e6).cell (x0_0)), (e7).cell ((e6).cell (x0_1)), (e7).cell ((e6).cell (x0_2))⟩ | exact ⟨(e6).cell (p0_0), (e6).cell (p0_1), (e6).cell (p0_2), (e6).cell (x0_0), (e6).cell (x0_1), (e6).cell (x0_2)⟩)
    (first | (go_at_call 25; (with_reducible refine (toCodedPacket_ok _ _ _ _ _ _ _ _ (r0_0.ext (E.trans ((Ext.refl w5).drew))) (r0_1.ext (E.trans ((Ext.refl w5).drew))) hl0 hk0).mono ?_); rintro e w6 ⟨t6a, t6c, t6b, t6d, rfl, t6o, t6p, t6x, e6⟩) | (go_at_call 27; (with_reducible refine (eqCodedPacket_ok _ _ _ _ _ _ _ _ _ _ _ _ _ _ _ ((t4o.one).ext (((Ext.refl w5).drew).trans e6)) ((t4o.two).ext (((Ext.refl w5).drew).trans e6)) ((OPk.of t6o t6p t6x).one) ((OPk.of t6o t6p t6x).two) hl0 hk0).mono ?_); rintro e w7 ⟨rfl, e7⟩))
  have z6 := (e6).size_le
  have z7 := (e7).size_le
  replace p0_0 := (e7).cell ((e6).cell (p0_0))
  replace p0_1 := (e7).cell ((e6).cell (p0_1))
  replace p0_2 := (e7).cell ((e6).cell (p0_2))
  replace x0_0 := (e7).cell ((e6).cell (x0_0))
  replace x0_1 := (e7).cell ((e6).cell (x0_1))
  replace x0_2 := (e7).cell ((e6).cell (x0_2))
  replace t4o := t4o.ext ((((Ext.refl w5).drew).trans e6).trans e7)
  replace E := E.trans ((((Ext.refl w5).drew).trans e6).trans e7)
  go_wp2_with fail
  go_ret
  exact ⟨rfl, E⟩

set_option maxHeartbeats 4000000 in
set_option maxRecDepth 100000 in
theorem lawEqualPackets (n0 : Int) (a0 : Option Addr) (c0 : Nat) (xs0 : List Int) (b0 : Option Addr) (d0 : Nat) (ys0 : List Int) (n1 : Int) (a1 : Option Addr) (c1 : Nat) (xs1 : List Int) (b1 : Option Addr) (d1 : Nat) (ys1 : List Int) (w : World) (r0_0 : Vals w a0 (I xs0)) (r0_1 : Vals w b0 (I ys0)) (r1_0 : Vals w a1 (I xs1)) (r1_1 : Vals w b1 (I ys1)) (m0_0 : xs0.length ≤ maxLen) (m0_1 : ys0.length ≤ maxLen) (m1_0 : xs1.length ≤ maxLen) (m1_1 : ys1.length ≤ maxLen) :
    Calls Try.prog 8 #[pkV n0 a0 c0 xs0 b0 d0 ys0, pkV n1 a1 c1 xs1 b1 d1 ys1] w (Gives w (.bool true)) := by
  by_cases hs0 : szPk xs0 ys0 1048576 < 0
  · skip
    go_enter Try.func8, Try.ntmps8
    go_wp2_with fail
    refine (szCodedPacket_ok _ _ _ _ _ _ _ _ _ m0_0 m0_1 (by omega) (by omega)).mono ?_
    rintro e w1 ⟨rfl, e1⟩
    have E := (((Ext.refl w).alloc _).alloc _).trans e1
    have z0 := e1.size_le
    simp at z0
    have p0_0 := e1.cell (p := ⟨w.heap.size, 0, none⟩) (v := .int .i64 n0) (by simp)
    have p0_1 := e1.cell (p := ⟨w.heap.size, 1, none⟩) (v := .slice a0 xs0.length c0) (by simp)
    have p0_2 := e1.cell (p := ⟨w.heap.size, 2, none⟩) (v := .slice b0 ys0.length d0) (by simp)
    have p1_0 := e1.cell (p := ⟨w.heap.size + 1, 0, none⟩) (v := .int .i64 n1) (by simp)
    have p1_1 := e1.cell (p := ⟨w.heap.size + 1, 1, none⟩) (v := .slice a1 xs1.length c1) (by simp)
    have p1_2 := e1.cell (p := ⟨w.heap.size + 1, 2, none⟩) (v := .slice b1 ys1.length d1) (by simp)
    go_wp2_with fail
    go_ret
    exact ⟨rfl, E⟩
  obtain ⟨hle0, heq0⟩ := szPk_le (Int.not_lt.1 hs0)
  have hl0 : xs0.length ≤ 1048576 := by omega
  have hk0 : ys0.length ≤ 1048576 := by omega
  have hf0 : szPk xs0 ys0 1048576 ≤ 1048576 := by omega
  have hg0 : 0 ≤ szPk xs0 ys0 1048576 := by omega
  replace heq0 := Lib.hid heq0
  by_cases hs1 : szPk xs1 ys1 (szPk xs0 ys0 1048576) < 0
  · skip
    go_enter Try.func8, Try.ntmps8
    go_wp2_with fail
    refine (szCodedPacket_ok _ _ _ _ _ _ _ _ _ m0_0 m0_1 (by omega) (by omega)).mono ?_
    rintro e w1 ⟨rfl, e1⟩
    have E := (((Ext.refl w).alloc _).alloc _).trans e1
    have z0 := e1.size_le
    simp at z0
    have p0_0 := e1.cell (p := ⟨w.heap.size, 0, none⟩) (v := .int .i64 n0) (by simp)
    have p0_1 := e1.cell (p := ⟨w.heap.size, 1, none⟩) (v := .slice a0 xs0.length c0) (by simp)
    have p0_2 := e1.cell (p := ⟨w.heap.size, 2, none⟩) (v := .slice b0 ys0.length d0) (by simp)
    have p1_0 := e1.cell (p := ⟨w.heap.size + 1, 0, none⟩) (v := .int .i64 n1) (by simp)
    have p1_1 := e1.cell (p := ⟨w.heap.size + 1, 1, none⟩) (v := .slice a1 xs1.length c1) (by simp)
    have p1_2 := e1.cell (p := ⟨w.heap.size + 1, 2, none⟩) (v := .slice b1 ys1.length d1) (by simp)
    go_wp2_with fail
    refine (szCodedPacket_ok _ _ _ _ _ _ _ _ _ m1_0 m1_1 (by omega) (by omega)).mono ?_
    rintro e w2 ⟨rfl, e2⟩
    have z2 := e2.size_le
    replace p0_0 := e2.cell p0_0
    replace p0_1 := e2.cell p0_1
    replace p0_2 := e2.cell p0_2
    replace p1_0 := e2.cell p1_0
    replace p1_1 := e2.cell p1_1
    replace p1_2 := e2.cell p1_2
    replace E := E.trans e2
    clear e2
    go_wp2_with fail
    go_ret
    exact ⟨rfl, E⟩
  obtain ⟨hle1, heq1⟩ := szPk_le (Int.not_lt.1 hs1)
  have hl1 : xs1.length ≤ 1048576 := by omega
  have hk1 : ys1.length ≤ 1048576 := by omega
  have hf1 : szPk xs1 ys1 (szPk xs0 ys0 1048576) ≤ 1048576 := by omega
  have hg1 : 0 ≤ szPk xs1 ys1 (szPk xs0 ys0 1048576) := by omega
  replace heq1 := Lib.hid heq1
  go_enter Try.func8, Try.ntmps8
  go_wp2_with fail
  refine (szCodedPacket_ok _ _ _ _ _ _ _ _ _ m0_0 m0_1 (by omega) (by omega)).mono ?_
  rintro e w1 ⟨rfl, e1⟩
  have E := (((Ext.refl w).alloc _).alloc _).trans e1
  have z0 := e1.size_le
  simp at z0
  have p0_0 := e1.cell (p := ⟨w.heap.size, 0, none⟩) (v := .int .i64 n0) (by simp)
  have p0_1 := e1.cell (p := ⟨w.heap.size, 1, none⟩) (v := .slice a0 xs0.length c0) (by simp)
  have p0_2 := e1.cell (p := ⟨w.heap.size, 2, none⟩) (v := .slice b0 ys0.length d0) (by simp)
  have p1_0 := e1.cell (p := ⟨w.heap.size + 1, 0, none⟩) (v := .int .i64 n1) (by simp)
  have p1_1 := e1.cell (p := ⟨w.heap.size + 1, 1, none⟩) (v := .slice a1 xs1.length c1) (by simp)
  have p1_2 := e1.cell (p := ⟨w.heap.size + 1, 2, none⟩) (v := .slice b1 ys1.length d1) (by simp)
  go_wp2_with fail
  refine (szCodedPacket_ok _ _ _ _ _ _ _ _ _ m1_0 m1_1 (by omega) (by omega)).mono ?_
  rintro e w2 ⟨rfl, e2⟩
  have z2 := e2.size_le
  replace p0_0 := e2.cell p0_0
  replace p0_1 := e2.cell p0_1
  replace p0_2 := e2.cell p0_2
  replace p1_0 := e2.cell p1_0
  replace p1_1 := e2.cell p1_1
  replace p1_2 := e2.cell p1_2
  replace E := E.trans e2
  clear e2
  go_wp2_with fail
  go_region_held3 (fun w' => w'.cell? ⟨w.heap.size, 0, none⟩ = some (.int .i64 n0) ∧ w'.cell? ⟨w.heap.size, 1, none⟩ = some (.slice a0 xs0.length c0) ∧ w'.cell? ⟨w.heap.size, 2, none⟩ = some (.slice b0 ys0.length d0) ∧ w'.cell? ⟨w.heap.size + 1, 0, none⟩ = some (.int .i64 n1) ∧ w'.cell? ⟨w.heap.size + 1, 1, none⟩ = some (.slice a1 xs1.length c1) ∧ w'.cell? ⟨w.heap.size + 1, 2, none⟩ = some (.slice b1 ys1.length d1))
    (first | go_keep | exact ⟨(e5).cell ((e4).cell ((e3).cell (p0_0))), (e5).cell ((e4).cell ((e3).cell (p0_1))), (e5).cell ((e4).cell ((e3).cell (p0_2))), (e5).cell ((e4).cell ((e3).cell (p1_0))), (e5).cell ((e4).cell ((e3).cell (p1_1))), (e5).cell ((e4).cell ((e3).cell (p1_2)))⟩ | exact ⟨(e4).cell ((e3).cell (p0_0)), (e4).cell ((e3).cell (p0_1)), (e4).cell ((e3).cell (p0_2)), (e4).cell ((e3).cell (p1_0)), (e4).cell ((e3).cell (p1_1)), (e4).cell ((e3).cell (p1_2))⟩ | exact ⟨(e3).cell (p0_0), (e3).cell (p0_1), (e3).cell (p0_2), (e3).cell (p1_0), (e3).cell (p1_1), (e3).cell (p1_2)⟩)
    (first | (go_at_call 25; (with_reducible refine (toCodedPacket_ok _ _ _ _ _ _ _ _ (r0_0.ext (E.trans ((Ext.refl w2).drew))) (r0_1.ext (E.trans ((Ext.refl w2).drew))) hl0 hk0).mono ?_); rintro e w3 ⟨t3a, t3c, t3b, t3d, rfl, t3o, t3p, t3x, e3⟩) | (go_at_call 25; (with_reducible refine (toCodedPacket_ok _ _ _ _ _ _ _ _ (r1_0.ext (E.trans (((Ext.refl w2).drew).trans e3))) (r1_1.ext (E.trans (((Ext.refl w2).drew).trans e3))) hl1 hk1).mono ?_); rintro e w4 ⟨t4a, t4c, t4b, t4d, rfl, t4o, t4p, t4x, e4⟩) | (go_at_call 33; (with_reducible refine (specEqualPackets_ok _ _ _ _ _ _ _ _ _ _ _ _ _ _ _ (((OPk.of t3o t3p t3x).one).ext e4) (((OPk.of t3o t3p t3x).two).ext e4) ((OPk.of t4o t4p t4x).one) ((OPk.of t4o t4p t4x).two) hl0 hk0).mono ?_); rintro e w5 ⟨rfl, e5⟩))
  have z3 := (e3).size_le
  have z4 := (e4).size_le
  have z5 := (e5).size_le
  replace p0_0 := (e5).cell ((e4).cell ((e3).cell (p0_0)))
  replace p0_1 := (e5).cell ((e4).cell ((e3).cell (p0_1)))
  replace p0_2 := (e5).cell ((e4).cell ((e3).cell (p0_2)))
  replace p1_0 := (e5).cell ((e4).cell ((e3).cell (p1_0)))
  replace p1_1 := (e5).cell ((e4).cell ((e3).cell (p1_1)))
  replace p1_2 := (e5).cell ((e4).cell ((e3).cell (p1_2)))
  replace E := E.trans (((((Ext.refl w2).drew).trans e3).trans e4).trans e5)
  go_wp2_with fail
  refine (toCodedPacket_ok _ _ _ _ _ _ _ _ (r0_0.ext (E)) (r0_1.ext (E)) hl0 hk0).mono ?_
  rintro e w6 ⟨t6a, t6c, t6b, t6d, rfl, t6o, t6p, t6x, e6⟩
  have z6 := e6.size_le
  replace p0_0 := e6.cell p0_0
  replace p0_1 := e6.cell p0_1
  replace p0_2 := e6.cell p0_2
  replace p1_0 := e6.cell p1_0
  replace p1_1 := e6.cell p1_1
  replace p1_2 := e6.cell p1_2
  replace E := E.trans e6
  clear e6
  replace t6o := OPk.of t6o t6p t6x
  have y_p0_0 := ((Ext.refl w6).alloc (.cells #[.int .i64 n0, .slice t6a xs0.length t6c, .slice t6b ys0.length t6d] 33)).cell p0_0
  have y_p0_1 := ((Ext.refl w6).alloc (.cells #[.int .i64 n0, .slice t6a xs0.length t6c, .slice t6b ys0.length t6d] 33)).cell p0_1
  have y_p0_2 := ((Ext.refl w6).alloc (.cells #[.int .i64 n0, .slice t6a xs0.length t6c, .slice t6b ys0.length t6d] 33)).cell p0_2
  have y_p1_0 := ((Ext.refl w6).alloc (.cells #[.int .i64 n0, .slice t6a xs0.length t6c, .slice t6b ys0.length t6d] 33)).cell p1_0
  have y_p1_1 := ((Ext.refl w6).alloc (.cells #[.int .i64 n0, .slice t6a xs0.length t6c, .slice t6b ys0.length t6d] 33)).cell p1_1
  have y_p1_2 := ((Ext.refl w6).alloc (.cells #[.int .i64 n0, .slice t6a xs0.length t6c, .slice t6b ys0.length t6d] 33)).cell p1_2
  go_wp2_with fail
  refine (toCodedPacket_ok _ _ _ _ _ _ _ _ (r1_0.ext (E.alloc _)) (r1_1.ext (E.alloc _)) hl1 hk1).mono ?_
  clear y_p0_0 y_p0_1 y_p0_2 y_p1_0 y_p1_1 y_p1_2
  rintro e w7 ⟨t7a, t7c, t7b, t7d, rfl, t7o, t7p, t7x, e7⟩
  have z7 := e7.size_le
  simp at z7
  replace p0_0 := (((Ext.refl w6).alloc _).trans e7).cell p0_0
  replace p0_1 := (((Ext.refl w6).alloc _).trans e7).cell p0_1
  replace p0_2 := (((Ext.refl w6).alloc _).trans e7).cell p0_2
  replace p1_0 := (((Ext.refl w6).alloc _).trans e7).cell p1_0
  replace p1_1 := (((Ext.refl w6).alloc _).trans e7).cell p1_1
  replace p1_2 := (((Ext.refl w6).alloc _).trans e7).cell p1_2
  replace t6o := t6o.ext (((Ext.refl w6).alloc _).trans e7)
  have x0_0 := e7.cell (p := ⟨w6.heap.size, 0, none⟩) (v := .int .i64 n0) (by simp)
  have x0_1 := e7.cell (p := ⟨w6.heap.size, 1, none⟩) (v := .slice t6a xs0.length t6c) (by simp)
  have x0_2 := e7.cell (p := ⟨w6.heap.size, 2, none⟩) (v := .slice t6b ys0.length t6d) (by simp)
  replace E := (E.alloc _).trans e7
  clear e7
  replace t7o := OPk.of t7o t7p t7x
  have y_p0_0 := ((Ext.refl w7).alloc (.cells #[.int .i64 n1, .slice t7a xs1.length t7c, .slice t7b ys1.length t7d] 33)).cell p0_0
  have y_p0_1 := ((Ext.refl w7).alloc (.cells #[.int .i64 n1, .slice t7a xs1.length t7c, .slice t7b ys1.length t7d] 33)).cell p0_1
  have y_p0_2 := ((Ext.refl w7).alloc (.cells #[.int .i64 n1, .slice t7a xs1.length t7c, .slice t7b ys1.length t7d] 33)).cell p0_2
  have y_p1_0 := ((Ext.refl w7).alloc (.cells #[.int .i64 n1, .slice t7a xs1.length t7c, .slice t7b ys1.length t7d] 33)).cell p1_0
  have y_p1_1 := ((Ext.refl w7).alloc (.cells #[.int .i64 n1, .slice t7a xs1.length t7c, .slice t7b ys1.length t7d] 33)).cell p1_1
  have y_p1_2 := ((Ext.refl w7).alloc (.cells #[.int .i64 n1, .slice t7a xs1.length t7c, .slice t7b ys1.length t7d] 33)).cell p1_2
  have y_x0_0 := ((Ext.refl w7).alloc (.cells #[.int .i64 n1, .slice t7a xs1.length t7c, .slice t7b ys1.length t7d] 33)).cell x0_0
  have y_x0_1 := ((Ext.refl w7).alloc (.cells #[.int .i64 n1, .slice t7a xs1.length t7c, .slice t7b ys1.length t7d] 33)).cell x0_1
  have y_x0_2 := ((Ext.refl w7).alloc (.cells #[.int .i64 n1, .slice t7a xs1.length t7c, .slice t7b ys1.length t7d] 33)).cell x0_2
  go_wp2_with fail
  refine (implEqualPackets_ok _ _ _ _ _ _ _ _ _ _ _ _ _ _ _ ((t6o.one).ext ((Ext.refl _).alloc _)) ((t6o.two).ext ((Ext.refl _).alloc _)) ((t7o.one).ext ((Ext.refl _).alloc _)) ((t7o.two).ext ((Ext.refl _).alloc _)) hl0 hk0).mono ?_
  clear y_p0_0 y_p0_1 y_p0_2 y_p1_0 y_p1_1 y_p1_2 y_x0_0 y_x0_1 y_x0_2
  rintro e w8 ⟨rfl, e8⟩
  have z8 := e8.size_le
  simp at z8
  replace p0_0 := (((Ext.refl w7).alloc _).trans e8).cell p0_0
  replace p0_1 := (((Ext.refl w7).alloc _).trans e8).cell p0_1
  replace p0_2 := (((Ext.refl w7).alloc _).trans e8).cell p0_2
  replace p1_0 := (((Ext.refl w7).alloc _).trans e8).cell p1_0
  replace p1_1 := (((Ext.refl w7).alloc _).trans e8).cell p1_1
  replace p1_2 := (((Ext.refl w7).alloc _).trans e8).cell p1_2
  replace x0_0 := (((Ext.refl w7).alloc _).trans e8).cell x0_0
  replace x0_1 := (((Ext.refl w7).alloc _).trans e8).cell x0_1
  replace x0_2 := (((Ext.refl w7).alloc _).trans e8).cell x0_2
  replace t6o := t6o.ext (((Ext.refl w7).alloc _).trans e8)
  replace t7o := t7o.ext (((Ext.refl w7).alloc _).trans e8)
  have x1_0 := e8.cell (p := ⟨w7.heap.size, 0, none⟩) (v := .int .i64 n1) (by simp)
  have x1_1 := e8.cell (p := ⟨w7.heap.size, 1, none⟩) (v := .slice t7a xs1.length t7c) (by simp)
  have x1_2 := e8.cell (p := ⟨w7.heap.size, 2, none⟩) (v := .slice t7b ys1.length t7d) (by simp)
  replace E := (E.alloc _).trans e8
  clear e8
  have q0 : ((eqPk n0 xs0 ys0 n1 xs1 ys1) != (eqPk n0 xs0 ys0 n1 xs1 ys1)) = false := by simp
  have qe0 := eqPk_self n0 xs0 ys0
  have qe1 := eqPk_self n1 xs1 ys1
  go_wp2_with fail
  go_region_held3 (fun w' => w'.cell? ⟨w.heap.size, 0, none⟩ = some (.int .i64 n0) ∧ w'.cell? ⟨w.heap.size, 1, none⟩ = some (.slice a0 xs0.length c0) ∧ w'.cell? ⟨w.heap.size, 2, none⟩ = some (.slice b0 ys0.length d0) ∧ w'.cell? ⟨w.heap.size + 1, 0, none⟩ = some (.int .i64 n1) ∧ w'.cell? ⟨w.heap.size + 1, 1, none⟩ = some (.slice a1 xs1.length c1) ∧ w'.cell? ⟨w.heap.size + 1, 2, none⟩ = some (.slice b1 ys1.length d1) ∧ w'.cell? ⟨w6.heap.size, 0, none⟩ = some (.int .i64 n0) ∧ w'.cell? ⟨w6.heap.size, 1, none⟩ = some (.slice t6a xs0.length t6c) ∧ w'.cell? ⟨w6.heap.size, 2, none⟩ = some (.slice t6b ys0.length t6d) ∧ w'.cell? ⟨w7.heap.size, 0, none⟩ = some (.int .i64 n1) ∧ w'.cell? ⟨w7.heap.size, 1, none⟩ = some (.slice t7a xs1.length t7c) ∧ w'.cell? ⟨w7.heap.size, 2, none⟩ = some (.slice t7b ys1.length t7d))
    (first | go_keep | exact ⟨(e10).cell ((e9).cell (p0_0)), (e10).cell ((e9).cell (p0_1)), (e10).cell ((e9).cell (p0_2)), (e10).cell ((e9).cell (p1_0)), (e10).cell ((e9).cell (p1_1)), (e10).cell ((e9).cell (p1_2)), (e10).cell ((e9).cell (x0_0)), (e10).cell ((e9).cell (x0_1)), (e10).cell ((e9).cell (x0_2)), (e10).cell ((e9).cell (x1_0)), (e10).cell ((e9).cell (x1_1)), (e10).cell ((e9).cell (x1_2))⟩ | exact ⟨(e9).cell (p0_0), (e9).cell (p0_1), (e9).cell (p0_2), (e9).cell (p1_0), (e9).cell (p1_1), (e9).cell (p1_2), (e9).cell (x0_0), (e9).cell (x0_1), (e9).cell (x0_2), (e9).cell (x1_0), (e9).cell (x1_1), (e9).cell (x1_2)⟩)
    (first | (go_at_call 25; (with_reducible refine (toCodedPacket_ok _ _ _ _ _ _ _ _ (r0_0.ext (E.trans ((Ext.refl w8).drew))) (r0_1.ext (E.trans ((Ext.refl w8).drew))) hl0 hk0).mono ?_); rintro e w9 ⟨t9a, t9c, t9b, t9d, rfl, t9o, t9p, t9x, e9⟩) | (go_at_call 27; (with_reducible refine (eqCodedPacket_ok _ _ _ _ _ _ _ _ _ _ _ _ _ _ _ ((t6o.one).ext (((Ext.refl w8).drew).trans e9)) ((t6o.two).ext (((Ext.refl w8).drew).trans e9)) ((OPk.of t9o t9p t9x).one) ((OPk.of t9o t9p t9x).two) hl0 hk0).mono ?_); rintro e w10 ⟨rfl, e10⟩))
  have z9 := (e9).size_le
  have z10 := (e10).size_le
  replace p0_0 := (e10).cell ((e9).cell (p0_0))
  replace p0_1 := (e10).cell ((e9).cell (p0_1))
  replace p0_2 := (e10).cell ((e9).cell (p0_2))
  replace p1_0 := (e10).cell ((e9).cell (p1_0))
  replace p1_1 := (e10).cell ((e9).cell (p1_1))
  replace p1_2 := (e10).cell ((e9).cell (p1_2))
  replace x0_0 := (e10).cell ((e9).cell (x0_0))
  replace x0_1 := (e10).cell ((e9).cell (x0_1))
  replace x0_2 := (e10).cell ((e9).cell (x0_2))
  replace x1_0 := (e10).cell ((e9).cell (x1_0))
  replace x1_1 := (e10).cell ((e9).cell (x1_1))
  replace x1_2 := (e10).cell ((e9).cell (x1_2))
  replace t6o := t6o.ext ((((Ext.refl w8).drew).trans e9).trans e10)
  replace t7o := t7o.ext ((((Ext.refl w8).drew).trans e9).trans e10)
  replace E := E.trans ((((Ext.refl w8).drew).trans e9).trans e10)
  go_wp2_with fail
  go_region_held3 (fun w' => w'.cell? ⟨w.heap.size, 0, none⟩ = some (.int .i64 n0) ∧ w'.cell? ⟨w.heap.size, 1, none⟩ = some (.slice a0 xs0.length c0) ∧ w'.cell? ⟨w.heap.size, 2, none⟩ = some (.slice b0 ys0.length d0) ∧ w'.cell? ⟨w.heap.size + 1, 0, none⟩ = some (.int .i64 n1) ∧ w'.cell? ⟨w.heap.size + 1, 1, none⟩ = some (.slice a1 xs1.length c1) ∧ w'.cell? ⟨w.heap.size + 1, 2, none⟩ = some (.slice b1 ys1.length d1) ∧ w'.cell? ⟨w6.heap.size, 0, none⟩ = some (.int .i64 n0) ∧ w'.cell? ⟨w6.heap.size, 1, none⟩ = some (.slice t6a xs0.length t6c) ∧ w'.cell? ⟨w6.heap.size, 2, none⟩ = some (.slice t6b ys0.length t6d) ∧ w'.cell? ⟨w7.heap.size, 0, none⟩ = some (.int .i64 n1) ∧ w'.cell? ⟨w7.heap.size, 1, none⟩ = some (.slice t7a xs1.length t7c) ∧ w'.cell? ⟨w7.heap.size, 2, none⟩ = some (.slice t7b ys1.length t7d))
    (first | go_keep | exact ⟨(e12).cell ((e11).cell (p0_0)), (e12).cell ((e11).cell (p0_1)), (e12).cell ((e11).cell (p0_2)), (e12).cell ((e11).cell (p1_0)), (e12).cell ((e11).cell (p1_1)), (e12).cell ((e11).cell (p1_2)), (e12).cell ((e11).cell (x0_0)), (e12).cell ((e11).cell (x0_1)), (e12).cell ((e11).cell (x0_2)), (e12).cell ((e11).cell (x1_0)), (e12).cell ((e11).cell (x1_1)), (e12).cell ((e11).cell (x1_2))⟩ | exact ⟨(e11).cell (p0_0), (e11).cell (p0_1), (e11).cell (p0_2), (e11).cell (p1_0), (e11).cell (p1_1), (e11).cell (p1_2), (e11).cell (x0_0), (e11).cell (x0_1), (e11).cell (x0_2), (e11).cell (x1_0), (e11).cell (x1_1), (e11).cell (x1_2)⟩)
    (first | (go_at_call 25; (with_reducible refine (toCodedPacket_ok _ _ _ _ _ _ _ _ (r1_0.ext (E.trans ((Ext.refl w10).drew))) (r1_1.ext (E.trans ((Ext.refl w10).drew))) hl1 hk1).mono ?_); rintro e w11 ⟨t11a, t11c, t11b, t11d, rfl, t11o, t11p, t11x, e11⟩) | (go_at_call 27; (with_reducible refine (eqCodedPacket_ok _ _ _ _ _ _ _ _ _ _ _ _ _ _ _ ((t7o.one).ext (((Ext.refl w10).drew).trans e11)) ((t7o.two).ext (((Ext.refl w10).drew).trans e11)) ((OPk.of t11o t11p t11x).one) ((OPk.of t11o t11p t11x).two) hl1 hk1).mono ?_); rintro e w12 ⟨rfl, e12⟩))
  have z11 := (e11).size_le
  have z12 := (e12).size_le
  replace p0_0 := (e12).cell ((e11).cell (p0_0))
  replace p0_1 := (e12).cell ((e11).cell (p0_1))
  replace p0_2 := (e12).cell ((e11).cell (p0_2))
  replace p1_0 := (e12).cell ((e11).cell (p1_0))
  replace p1_1 := (e12).cell ((e11).cell (p1_1))
  replace p1_2 := (e12).cell ((e11).cell (p1_2))
  replace x0_0 := (e12).cell ((e11).cell (x0_0))
  replace x0_1 := (e12).cell ((e11).cell (x0_1))
  replace x0_2 := (e12).cell ((e11).cell (x0_2))
  replace x1_0 := (e12).cell ((e11).cell (x1_0))
  replace x1_1 := (e12).cell ((e11).cell (x1_1))
  replace x1_2 := (e12).cell ((e11).cell (x1_2))
  replace t6o := t6o.ext ((((Ext.refl w10).drew).trans e11).trans e12)
  replace t7o := t7o.ext ((((Ext.refl w10).drew).trans e11).trans e12)
  replace E := E.trans ((((Ext.refl w10).drew).trans e11).trans e12)
  go_wp2_with fail
  go_ret
  exact ⟨rfl, E⟩

set_option maxHeartbeats 4000000 in
set_option maxRecDepth 100000 in
theorem lawIsValidPacket (n0 : Int) (a0 : Option Addr) (c0 : Nat) (xs0 : List Int) (b0 : Option Addr) (d0 : Nat) (ys0 : List Int) (n1 : Int) (n2 : Int) (w : World) (r0_0 : Vals w a0 (I xs0)) (r0_1 : Vals w b0 (I ys0)) (m0_0 : xs0.length ≤ maxLen) (m0_1 : ys0.length ≤ maxLen) :
    Calls Try.prog 9 #[pkV n0 a0 c0 xs0 b0 d0 ys0, .int .i64 n1, .int .i64 n2] w (Gives w (.bool true)) := by
  by_cases hs0 : szPk xs0 ys0 1048576 < 0
  · skip
    go_enter Try.func9, Try.ntmps9
    go_wp2_with fail
    refine (szCodedPacket_ok _ _ _ _ _ _ _ _ _ m0_0 m0_1 (by omega) (by omega)).mono ?_
    rintro e w1 ⟨rfl, e1⟩
    have E := ((Ext.refl w).alloc _).trans e1
    have z0 := e1.size_le
    simp at z0
    have p0_0 := e1.cell (p := ⟨w.heap.size, 0, none⟩) (v := .int .i64 n0) (by simp)
    have p0_1 := e1.cell (p := ⟨w.heap.size, 1, none⟩) (v := .slice a0 xs0.length c0) (by simp)
    have p0_2 := e1.cell (p := ⟨w.heap.size, 2, none⟩) (v := .slice b0 ys0.length d0) (by simp)
    go_wp2_with fail
    go_ret
    exact ⟨rfl, E⟩
  obtain ⟨hle0, heq0⟩ := szPk_le (Int.not_lt.1 hs0)
  have hl0 : xs0.length ≤ 1048576 := by omega
  have hk0 : ys0.length ≤ 1048576 := by omega
  have hf0 : szPk xs0 ys0 1048576 ≤ 1048576 := by omega
  have hg0 : 0 ≤ szPk xs0 ys0 1048576 := by omega
  replace heq0 := Lib.hid heq0
  go_enter Try.func9, Try.ntmps9
  go_wp2_with fail
  refine (szCodedPacket_ok _ _ _ _ _ _ _ _ _ m0_0 m0_1 (by omega) (by omega)).mono ?_
  rintro e w1 ⟨rfl, e1⟩
  have E := ((Ext.refl w).alloc _).trans e1
  have z0 := e1.size_le
  simp at z0
  have p0_0 := e1.cell (p := ⟨w.heap.size, 0, none⟩) (v := .int .i64 n0) (by simp)
  have p0_1 := e1.cell (p := ⟨w.heap.size, 1, none⟩) (v := .slice a0 xs0.length c0) (by simp)
  have p0_2 := e1.cell (p := ⟨w.heap.size, 2, none⟩) (v := .slice b0 ys0.length d0) (by simp)
  go_wp2_with fail
  refine (toCodedPacket_ok _ _ _ _ _ _ _ _ (r0_0.ext (E)) (r0_1.ext (E)) hl0 hk0).mono ?_
  rintro e w2 ⟨t2a, t2c, t2b, t2d, rfl, t2o, t2p, t2x, e2⟩
  have z2 := e2.size_le
  replace p0_0 := e2.cell p0_0
  replace p0_1 := e2.cell p0_1
  replace p0_2 := e2.cell p0_2
  replace E := E.trans e2
  clear e2
  replace t2o := OPk.of t2o t2p t2x
  go_wp2_with fail
  refine (specIsValidPacket_ok _ _ _ _ _ _ _ _ _ _ (t2o.one) (t2o.two) hl0 hk0).mono ?_
  rintro e w3 ⟨rfl, e3⟩
  have z3 := e3.size_le
  replace p0_0 := e3.cell p0_0
  replace p0_1 := e3.cell p0_1
  replace p0_2 := e3.cell p0_2
  replace t2o := t2o.ext e3
  replace E := E.trans e3
  clear e3
  go_wp2_with fail
  refine (toCodedPacket_ok _ _ _ _ _ _ _ _ (r0_0.ext (E)) (r0_1.ext (E)) hl0 hk0).mono ?_
  rintro e w4 ⟨t4a, t4c, t4b, t4d, rfl, t4o, t4p, t4x, e4⟩
  have z4 := e4.size_le
  replace p0_0 := e4.cell p0_0
  replace p0_1 := e4.cell p0_1
  replace p0_2 := e4.cell p0_2
  replace E := E.trans e4
  clear e4
  replace t4o := OPk.of t4o t4p t4x
  have y_p0_0 := ((Ext.refl w4).alloc (.cells #[.int .i64 n0, .slice t4a xs0.length t4c, .slice t4b ys0.length t4d] 33)).cell p0_0
  have y_p0_1 := ((Ext.refl w4).alloc (.cells #[.int .i64 n0, .slice t4a xs0.length t4c, .slice t4b ys0.length t4d] 33)).cell p0_1
  have y_p0_2 := ((Ext.refl w4).alloc (.cells #[.int .i64 n0, .slice t4a xs0.length t4c, .slice t4b ys0.length t4d] 33)).cell p0_2
  go_wp2_with fail
  refine (implIsValidPacket_ok _ _ _ _ _ _ _ _ _ _ ((t4o.one).ext ((Ext.refl _).alloc _)) ((t4o.two).ext ((Ext.refl _).alloc _)) hl0 hk0).mono ?_
  clear y_p0_0 y_p0_1 y_p0_2
  rintro e w5 ⟨rfl, e5⟩
  have z5 := e5.size_le
  simp at z5
  replace p0_0 := (((Ext.refl w4).alloc _).trans e5).cell p0_0
  replace p0_1 := (((Ext.refl w4).alloc _).trans e5).cell p0_1
  replace p0_2 := (((Ext.refl w4).alloc _).trans e5).cell p0_2
  replace t4o := t4o.ext (((Ext.refl w4).alloc _).trans e5)
  have x0_0 := e5.cell (p := ⟨w4.heap.size, 0, none⟩) (v := .int .i64 n0) (by simp)
  have x0_1 := e5.cell (p := ⟨w4.heap.size, 1, none⟩) (v := .slice t4a xs0.length t4c) (by simp)
  have x0_2 := e5.cell (p := ⟨w4.heap.size, 2, none⟩) (v := .slice t4b ys0.length t4d) (by simp)
  replace E := (E.alloc _).trans e5
  clear e5
  have q0 : ((validPk n0 xs0 ys0 n1 n2) != (validPk n0 xs0 ys0 n1 n2)) = false := by simp
  have qe0 := eqPk_self n0 xs0 ys0
  go_wp2_with fail
  go_region_held3 (fun w' => w'.cell? ⟨w.heap.size, 0, none⟩ = some (.int .i64 n0) ∧ w'.cell? ⟨w.heap.size, 1, none⟩ = some (.slice a0 xs0.length c0) ∧ w'.cell? ⟨w.heap.size, 2, none⟩ = some (.slice b0 ys0.length d0) ∧ w'.cell? ⟨w4.heap.size, 0, none⟩ = some (.int .i64 n0) ∧ w'.cell? ⟨w4.heap.size, 1, none⟩ = some (.slice t4a xs0.length t4c) ∧ w'.cell? ⟨w4.heap.size, 2, none⟩ = some (.slice t4b ys0.length t4d))
    (first | go_keep | exact ⟨(e7).cell ((e6).cell (p0_0)), (e7).cell ((e6).cell (p0_1)), (e7).cell ((e6).cell (p0_2)), (e7).cell ((e6).cell (x0_0)), (e7).cell ((e6).cell (x0_1)), (e7).cell ((e6).cell (x0_2))⟩ | exact ⟨(e6).cell (p0_0), (e6).cell (p0_1), (e6).cell (p0_2), (e6).cell (x0_0), (e6).cell (x0_1), (e6).cell (x0_2)⟩)
    (first | (go_at_call 25; (with_reducible refine (toCodedPacket_ok _ _ _ _ _ _ _ _ (r0_0.ext (E.trans ((Ext.refl w5).drew))) (r0_1.ext (E.trans ((Ext.refl w5).drew))) hl0 hk0).mono ?_); rintro e w6 ⟨t6a, t6c, t6b, t6d, rfl, t6o, t6p, t6x, e6⟩) | (go_at_call 27; (with_reducible refine (eqCodedPacket_ok _ _ _ _ _ _ _ _ _ _ _ _ _ _ _ ((t4o.one).ext (((Ext.refl w5).drew).trans e6)) ((t4o.two).ext (((Ext.refl w5).drew).trans e6)) ((OPk.of t6o t6p t6x).one) ((OPk.of t6o t6p t6x).two) hl0 hk0).mono ?_); rintro e w7 ⟨rfl, e7⟩))
  have z6 := (e6).size_le
  have z7 := (e7).size_le
  replace p0_0 := (e7).cell ((e6).cell (p0_0))
  replace p0_1 := (e7).cell ((e6).cell (p0_1))
  replace p0_2 := (e7).cell ((e6).cell (p0_2))
  replace x0_0 := (e7).cell ((e6).cell (x0_0))
  replace x0_1 := (e7).cell ((e6).cell (x0_1))
  replace x0_2 := (e7).cell ((e6).cell (x0_2))
  replace t4o := t4o.ext ((((Ext.refl w5).drew).trans e6).trans e7)
  replace E := E.trans ((((Ext.refl w5).drew).trans e6).trans e7)
  go_wp2_with fail
  go_ret
  exact ⟨rfl, E⟩

end Go.Proofs.Ytcdfkkmbefjaaaa
