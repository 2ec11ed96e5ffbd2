/- Contracts of IsConsistent (program and reference); its law. -/
import Derived.Test.YtkbkfpcngonipaaCode
import Derived.Test.YtkbkfpcngonipaaLawCode
import Derived.Deep.RegionHeld3
namespace Go.Proofs.Ytkbkfpcngonipaa
open Go.RowKit
set_option linter.unusedVariables false
set_option maxRecDepth 20000

theorem OPk.mono {w : World} {B B2 C C2 : Nat} {a b : Option Addr} {c d : Nat} {xs ys : List Int} (h : OPk w B B2 a c xs b d ys) (h1 : C ≤ B) (h2 : B2 ≤ C2) : OPk w C C2 a c xs b d ys := ⟨h.left.mono h1 h2, h.right.mono h1 h2, h.apart⟩

def consist (n : Int) (xss : List (List Int)) (m : Int) (cs ys : List Int) : Bool := codeOk n xss cs && eqPk m cs ys (codeN n xss cs) (codeC n xss cs) (codeP n xss cs)
theorem eqPk_comm (n : Int) (xs ys : List Int) (n' : Int) (xs' ys' : List Int) : eqPk n xs ys n' xs' ys' = eqPk n' xs' ys' n xs ys := by
  unfold eqPk
  rw [decide_eq_decide.2 (show n = n' ↔ n' = n from ⟨Eq.symm, Eq.symm⟩), decide_eq_decide.2 (show xs = xs' ↔ xs' = xs from ⟨Eq.symm, Eq.symm⟩), decide_eq_decide.2 (show ys = ys' ↔ ys' = ys from ⟨Eq.symm, Eq.symm⟩)]

set_option maxHeartbeats 4000000 in
set_option maxRecDepth 100000 in
theorem implIsConsistent_ok (n : Int) (a : Option Addr) (c : Nat) (xss : List (List Int)) (m : Int) (a' : Option Addr) (c' : Nat) (cs : List Int) (b' : Option Addr) (d' : Nat) (ys : List Int) (w : World) (h : MatR w a xss) (h1 : Vals w a' (I cs)) (h2 : Vals w b' (I ys)) (hm : xss.length ≤ 1048576) (hr : ∀ xs ∈ xss, xs.length ≤ 1048576) (hmc : cs.length ≤ 1048576) (hmy : ys.length ≤ 1048576) :
    Calls Try.prog 27 #[bsV n a c xss, pkV m a' c' cs b' d' ys] w (Gives w (.bool (consist n xss m cs ys))) := by
  have E0 := ((Ext.refl w).alloc (.cells #[.int .i64 n, .slice a xss.length c] 31)).alloc (.cells #[.int .i64 m, .slice a' cs.length c', .slice b' ys.length d'] 28)
  have q := implCodePacket_ok n a c xss a' c' cs _ (h.ext E0) (h1.ext E0) hm hr hmc
  obtain ⟨bc, bp⟩ := code_bounds n xss cs
  have H1 := Lib.hid h1
  have H2 := Lib.hid h2
  clear h h1 h2 hr E0
  cases hk : codeOk n xss cs
  all_goals
    rw [hk] at q
    have Q := Lib.hid q
    have HK := Lib.hid hk
    clear q hk
    go_enter Try.func27, Try.ntmps27
    go_wp2_with fail
    refine Q.out.mono ?_
    rintro e w1 ⟨a1, c1, b1, d1, rfl, o1, o2, hap, e1⟩
    have e01 := (((Ext.refl w).alloc _).alloc _).trans e1
    have p0 := e1.cell (p := ⟨w.heap.size + 1, 0, none⟩) (v := .int .i64 m) (by simp)
    have p1 := e1.cell (p := ⟨w.heap.size + 1, 1, none⟩) (v := .slice a' cs.length c') (by simp)
    have p2 := e1.cell (p := ⟨w.heap.size + 1, 2, none⟩) (v := .slice b' ys.length d') (by simp)
    have lit : Obj := .cells #[.int .i64 (codeN n xss cs), .slice a1 (codeC n xss cs).length c1, .slice b1 (codeP n xss cs).length d1] 28
    have y0 := ((Ext.refl w1).alloc (.cells #[.int .i64 (codeN n xss cs), .slice a1 (codeC n xss cs).length c1, .slice b1 (codeP n xss cs).length d1] 28)).cell p0
    have y1 := ((Ext.refl w1).alloc (.cells #[.int .i64 (codeN n xss cs), .slice a1 (codeC n xss cs).length c1, .slice b1 (codeP n xss cs).length d1] 28)).cell p1
    have y2 := ((Ext.refl w1).alloc (.cells #[.int .i64 (codeN n xss cs), .slice a1 (codeC n xss cs).length c1, .slice b1 (codeP n xss cs).length d1] 28)).cell p2
    clear lit
    go_wp2_with fail
  · go_ret
    exact ⟨ret_bool (by unfold consist; rw [HK.out]; rfl), e01.alloc _⟩
  · refine ((implEqualPackets_ok _ _ _ _ _ _ _ _ _ _ _ _ _ _ _ (o1.vals.ext ((Ext.refl w1).alloc _)) (o2.vals.ext ((Ext.refl w1).alloc _)) (H1.out.ext (e01.alloc _)) (H2.out.ext (e01.alloc _)) (by omega) (by omega))).mono ?_
    rintro e w2 ⟨rfl, e2⟩
    go_wp2_with fail
    go_ret
    exact ⟨ret_bool (by unfold consist; rw [HK.out, Bool.true_and]; rw [eqPk_comm]), (e01.alloc _).trans e2⟩

set_option maxHeartbeats 4000000 in
set_option maxRecDepth 100000 in
theorem specIsConsistent_ok (n : Int) (a : Option Addr) (c : Nat) (xss : List (List Int)) (m : Int) (a' : Option Addr) (c' : Nat) (cs : List Int) (b' : Option Addr) (d' : Nat) (ys : List Int) (w : World) (h : MatR w a xss) (h1 : Vals w a' (I cs)) (h2 : Vals w b' (I ys)) (hm : xss.length ≤ 1048576) (hr : ∀ xs ∈ xss, xs.length ≤ 1048576) (hmc : cs.length ≤ 1048576) (hmy : ys.length ≤ 1048576) :
    Calls Try.prog 25 #[bsV n a c xss, pkV m a' c' cs b' d' ys] w (Gives w (.bool (consist n xss m cs ys))) := by
  have E0 := ((Ext.refl w).alloc (.cells #[.int .i64 n, .slice a xss.length c] 31)).alloc (.cells #[.int .i64 m, .slice a' cs.length c', .slice b' ys.length d'] 28)
  have q := specCodePacket_ok n a c xss a' c' cs _ (h.ext E0) (h1.ext E0) hm hr hmc
  obtain ⟨bc, bp⟩ := code_bounds n xss cs
  have H1 := Lib.hid h1
  have H2 := Lib.hid h2
  clear h h1 h2 hr E0
  cases hk : codeOk n xss cs
  all_goals
    rw [hk] at q
    have Q := Lib.hid q
    have HK := Lib.hid hk
    clear q hk
    go_enter Try.func25, Try.ntmps25
    go_wp2_with fail
    refine Q.out.mono ?_
    rintro e w1 ⟨a1, c1, b1, d1, rfl, o1, o2, hap, e1⟩
    have e01 := (((Ext.refl w).alloc _).alloc _).trans e1
    have p0 := e1.cell (p := ⟨w.heap.size + 1, 0, none⟩) (v := .int .i64 m) (by simp)
    have p1 := e1.cell (p := ⟨w.heap.size + 1, 1, none⟩) (v := .slice a' cs.length c') (by simp)
    have p2 := e1.cell (p := ⟨w.heap.size + 1, 2, none⟩) (v := .slice b' ys.length d') (by simp)
    have lit : Obj := .cells #[.int .i64 (codeN n xss cs), .slice a1 (codeC n xss cs).length c1, .slice b1 (codeP n xss cs).length d1] 28
    have y0 := ((Ext.refl w1).alloc (.cells #[.int .i64 (codeN n xss cs), .slice a1 (codeC n xss cs).length c1, .slice b1 (codeP n xss cs).length d1] 28)).cell p0
    have y1 := ((Ext.refl w1).alloc (.cells #[.int .i64 (codeN n xss cs), .slice a1 (codeC n xss cs).length c1, .slice b1 (codeP n xss cs).length d1] 28)).cell p1
    have y2 := ((Ext.refl w1).alloc (.cells #[.int .i64 (codeN n xss cs), .slice a1 (codeC n xss cs).length c1, .slice b1 (codeP n xss cs).length d1] 28)).cell p2
    clear lit
    go_wp2_with fail
  · go_ret
    exact ⟨ret_bool (by unfold consist; rw [HK.out]; rfl), e01.alloc _⟩
  · refine ((specEqualPackets_ok _ _ _ _ _ _ _ _ _ _ _ _ _ _ _ (H1.out.ext (e01.alloc _)) (H2.out.ext (e01.alloc _)) (o1.vals.ext ((Ext.refl w1).alloc _)) (o2.vals.ext ((Ext.refl w1).alloc _)) hmc hmy)).mono ?_
    rintro e w2 ⟨rfl, e2⟩
    go_wp2_with fail
    go_ret
    exact ⟨ret_bool (by unfold consist; rw [HK.out, Bool.true_and]; skip), (e01.alloc _).trans e2⟩

set_option maxHeartbeats 4000000 in
set_option maxRecDepth 100000 in
theorem lawIsConsistent (n0 : Int) (a0 : Option Addr) (c0 : Nat) (xss0 : List (List Int)) (n1 : Int) (a1 : Option Addr) (c1 : Nat) (xs1 : List Int) (b1 : Option Addr) (d1 : Nat) (ys1 : List Int) (w : World) (r0_0 : MatR w a0 xss0) (r1_0 : Vals w a1 (I xs1)) (r1_1 : Vals w b1 (I ys1)) (m0_0 : xss0.length ≤ maxLen) (m0_1 : ∀ xs ∈ xss0, xs.length ≤ maxLen) (m1_0 : xs1.length ≤ maxLen) (m1_1 : ys1.length ≤ maxLen) :
    Calls Try.prog 4 #[bsV n0 a0 c0 xss0, pkV n1 a1 c1 xs1 b1 d1 ys1] w (Gives w (.bool true)) := by
  replace m0_1 := Lib.hid m0_1
  by_cases hs0 : szM xss0 1048576 < 0
  · skip
    go_enter Try.func4, Try.ntmps4
    go_wp2_with fail
    refine (szGeneration_ok _ _ _ _ _ _ (r0_0.ext (((Ext.refl w).alloc _).alloc _)) m0_0 m0_1.out (by omega) (by omega)).mono ?_
    rintro e w1 ⟨rfl, e1⟩
    have E := (((Ext.refl w).alloc _).alloc _).trans e1
    have z0 := e1.size_le
    simp at z0
    have p0_0 := e1.cell (p := ⟨w.heap.size, 0, none⟩) (v := .int .i64 n0) (by simp)
    have p0_1 := e1.cell (p := ⟨w.heap.size, 1, none⟩) (v := .slice a0 xss0.length c0) (by simp)
    have p1_0 := e1.cell (p := ⟨w.heap.size + 1, 0, none⟩) (v := .int .i64 n1) (by simp)
    have p1_1 := e1.cell (p := ⟨w.heap.size + 1, 1, none⟩) (v := .slice a1 xs1.length c1) (by simp)
    have p1_2 := e1.cell (p := ⟨w.heap.size + 1, 2, none⟩) (v := .slice b1 ys1.length d1) (by simp)
    go_wp2_with fail
    go_ret
    exact ⟨rfl, E⟩
  obtain ⟨hle0, heq0⟩ := szM_le (Int.not_lt.1 hs0)
  have hl0 : xss0.length ≤ 1048576 := by omega
  have hr0 : Hid (∀ xs ∈ xss0, xs.length ≤ 1048576) := fun xs hx => by have := rows_le hx; omega
  have ht0 : tot xss0 ≤ 1099511627776 := by omega
  have hu0 : tot xss0 ≤ 1048576 := by omega
  have hf0 : szM xss0 1048576 ≤ 1048576 := by omega
  have hg0 : 0 ≤ szM xss0 1048576 := by omega
  replace heq0 := Lib.hid heq0
  by_cases hs1 : szPk xs1 ys1 (szM xss0 1048576) < 0
  · skip
    go_enter Try.func4, Try.ntmps4
    go_wp2_with fail
    refine (szGeneration_ok _ _ _ _ _ _ (r0_0.ext (((Ext.refl w).alloc _).alloc _)) m0_0 m0_1.out (by omega) (by omega)).mono ?_
    rintro e w1 ⟨rfl, e1⟩
    have E := (((Ext.refl w).alloc _).alloc _).trans e1
    have z0 := e1.size_le
    simp at z0
    have p0_0 := e1.cell (p := ⟨w.heap.size, 0, none⟩) (v := .int .i64 n0) (by simp)
    have p0_1 := e1.cell (p := ⟨w.heap.size, 1, none⟩) (v := .slice a0 xss0.length c0) (by simp)
    have p1_0 := e1.cell (p := ⟨w.heap.size + 1, 0, none⟩) (v := .int .i64 n1) (by simp)
    have p1_1 := e1.cell (p := ⟨w.heap.size + 1, 1, none⟩) (v := .slice a1 xs1.length c1) (by simp)
    have p1_2 := e1.cell (p := ⟨w.heap.size + 1, 2, none⟩) (v := .slice b1 ys1.length d1) (by simp)
    go_wp2_with fail
    refine (szCodedPacket_ok _ _ _ _ _ _ _ _ _ m1_0 m1_1 (by omega) (by omega)).mono ?_
    rintro e w2 ⟨rfl, e2⟩
    have z2 := e2.size_le
    replace p0_0 := e2.cell p0_0
    replace p0_1 := e2.cell p0_1
    replace p1_0 := e2.cell p1_0
    replace p1_1 := e2.cell p1_1
    replace p1_2 := e2.cell p1_2
    replace E := E.trans e2
    clear e2
    go_wp2_with fail
    go_ret
    exact ⟨rfl, E⟩
  obtain ⟨hle1, heq1⟩ := szPk_le (Int.not_lt.1 hs1)
  have hl1 : xs1.length ≤ 1048576 := by omega
  have hk1 : ys1.length ≤ 1048576 := by omega
  have hf1 : szPk xs1 ys1 (szM xss0 1048576) ≤ 1048576 := by omega
  have hg1 : 0 ≤ szPk xs1 ys1 (szM xss0 1048576) := by omega
  replace heq1 := Lib.hid heq1
  go_enter Try.func4, Try.ntmps4
  go_wp2_with fail
  refine (szGeneration_ok _ _ _ _ _ _ (r0_0.ext (((Ext.refl w).alloc _).alloc _)) m0_0 m0_1.out (by omega) (by omega)).mono ?_
  rintro e w1 ⟨rfl, e1⟩
  have E := (((Ext.refl w).alloc _).alloc _).trans e1
  have z0 := e1.size_le
  simp at z0
  have p0_0 := e1.cell (p := ⟨w.heap.size, 0, none⟩) (v := .int .i64 n0) (by simp)
  have p0_1 := e1.cell (p := ⟨w.heap.size, 1, none⟩) (v := .slice a0 xss0.length c0) (by simp)
  have p1_0 := e1.cell (p := ⟨w.heap.size + 1, 0, none⟩) (v := .int .i64 n1) (by simp)
  have p1_1 := e1.cell (p := ⟨w.heap.size + 1, 1, none⟩) (v := .slice a1 xs1.length c1) (by simp)
  have p1_2 := e1.cell (p := ⟨w.heap.size + 1, 2, none⟩) (v := .slice b1 ys1.length d1) (by simp)
  go_wp2_with fail
  refine (szCodedPacket_ok _ _ _ _ _ _ _ _ _ m1_0 m1_1 (by omega) (by omega)).mono ?_
  rintro e w2 ⟨rfl, e2⟩
  have z2 := e2.size_le
  replace p0_0 := e2.cell p0_0
  replace p0_1 := e2.cell p0_1
  replace p1_0 := e2.cell p1_0
  replace p1_1 := e2.cell p1_1
  replace p1_2 := e2.cell p1_2
  replace E := E.trans e2
  clear e2
  go_wp2_with fail
  go_region_held3 (fun w' => w'.cell? ⟨w.heap.size, 0, none⟩ = some (.int .i64 n0) ∧ w'.cell? ⟨w.heap.size, 1, none⟩ = some (.slice a0 xss0.length c0) ∧ w'.cell? ⟨w.heap.size + 1, 0, none⟩ = some (.int .i64 n1) ∧ w'.cell? ⟨w.heap.size + 1, 1, none⟩ = some (.slice a1 xs1.length c1) ∧ w'.cell? ⟨w.heap.size + 1, 2, none⟩ = some (.slice b1 ys1.length d1))
    (first | go_keep | exact ⟨(e5).cell ((e4).cell ((e3).cell (p0_0))), (e5).cell ((e4).cell ((e3).cell (p0_1))), (e5).cell ((e4).cell ((e3).cell (p1_0))), (e5).cell ((e4).cell ((e3).cell (p1_1))), (e5).cell ((e4).cell ((e3).cell (p1_2)))⟩ | exact ⟨(e4).cell ((e3).cell (p0_0)), (e4).cell ((e3).cell (p0_1)), (e4).cell ((e3).cell (p1_0)), (e4).cell ((e3).cell (p1_1)), (e4).cell ((e3).cell (p1_2))⟩ | exact ⟨(e3).cell (p0_0), (e3).cell (p0_1), (e3).cell (p1_0), (e3).cell (p1_1), (e3).cell (p1_2)⟩)
    (first | (go_at_call 17; (with_reducible refine (toGeneration_ok _ _ _ _ _ (r0_0.ext (E.trans ((Ext.refl w2).drew))) hl0 hr0.out).mono ?_); rintro e w3 ⟨t3a, t3c, rfl, t3o, e3⟩) | (go_at_call 26; (with_reducible refine (toCodedPacket_ok _ _ _ _ _ _ _ _ (r1_0.ext (E.trans (((Ext.refl w2).drew).trans e3))) (r1_1.ext (E.trans (((Ext.refl w2).drew).trans e3))) hl1 hk1).mono ?_); rintro e w4 ⟨t4a, t4c, t4b, t4d, rfl, t4o, t4p, t4x, e4⟩) | (go_at_call 25; (with_reducible refine (specIsConsistent_ok _ _ _ _ _ _ _ _ _ _ _ _ ((t3o.reads).ext e4) ((OPk.of t4o t4p t4x).one) ((OPk.of t4o t4p t4x).two) hl0 hr0.out hl1 hk1).mono ?_); rintro e w5 ⟨rfl, e5⟩))
  have z3 := (((Ext.refl w2).drew.trans e3)).size_le
  have z4 := (e4).size_le
  have z5 := (e5).size_le
  replace p0_0 := (e5).cell ((e4).cell ((e3).cell (p0_0)))
  replace p0_1 := (e5).cell ((e4).cell ((e3).cell (p0_1)))
  replace p1_0 := (e5).cell ((e4).cell ((e3).cell (p1_0)))
  replace p1_1 := (e5).cell ((e4).cell ((e3).cell (p1_1)))
  replace p1_2 := (e5).cell ((e4).cell ((e3).cell (p1_2)))
  replace E := E.trans (((((Ext.refl w2).drew).trans e3).trans e4).trans e5)
  go_wp2_with fail
  refine (toGeneration_ok _ _ _ _ _ (r0_0.ext (E)) hl0 hr0.out).mono ?_
  rintro e w6 ⟨t6a, t6c, rfl, t6o, e6⟩
  have z6 := e6.size_le
  replace p0_0 := e6.cell p0_0
  replace p0_1 := e6.cell p0_1
  replace p1_0 := e6.cell p1_0
  replace p1_1 := e6.cell p1_1
  replace p1_2 := e6.cell p1_2
  replace E := E.trans e6
  clear e6
  have y_p0_0 := ((Ext.refl w6).alloc (.cells #[.int .i64 n0, .slice t6a xss0.length t6c] 31)).cell p0_0
  have y_p0_1 := ((Ext.refl w6).alloc (.cells #[.int .i64 n0, .slice t6a xss0.length t6c] 31)).cell p0_1
  have y_p1_0 := ((Ext.refl w6).alloc (.cells #[.int .i64 n0, .slice t6a xss0.length t6c] 31)).cell p1_0
  have y_p1_1 := ((Ext.refl w6).alloc (.cells #[.int .i64 n0, .slice t6a xss0.length t6c] 31)).cell p1_1
  have y_p1_2 := ((Ext.refl w6).alloc (.cells #[.int .i64 n0, .slice t6a xss0.length t6c] 31)).cell p1_2
  go_wp2_with fail
  refine (toCodedPacket_ok _ _ _ _ _ _ _ _ (r1_0.ext (E.alloc _)) (r1_1.ext (E.alloc _)) hl1 hk1).mono ?_
  clear y_p0_0 y_p0_1 y_p1_0 y_p1_1 y_p1_2
  rintro e w7 ⟨t7a, t7c, t7b, t7d, rfl, t7o, t7p, t7x, e7⟩
  have z7 := e7.size_le
  simp at z7
  replace p0_0 := (((Ext.refl w6).alloc _).trans e7).cell p0_0
  replace p0_1 := (((Ext.refl w6).alloc _).trans e7).cell p0_1
  replace p1_0 := (((Ext.refl w6).alloc _).trans e7).cell p1_0
  replace p1_1 := (((Ext.refl w6).alloc _).trans e7).cell p1_1
  replace p1_2 := (((Ext.refl w6).alloc _).trans e7).cell p1_2
  replace t6o := t6o.ext (((Ext.refl w6).alloc _).trans e7)
  have x0_0 := e7.cell (p := ⟨w6.heap.size, 0, none⟩) (v := .int .i64 n0) (by simp)
  have x0_1 := e7.cell (p := ⟨w6.heap.size, 1, none⟩) (v := .slice t6a xss0.length t6c) (by simp)
  replace E := (E.alloc _).trans e7
  clear e7
  replace t7o := OPk.of t7o t7p t7x
  replace t7o := t7o.mono (C := w6.heap.size + 1) (C2 := w7.heap.size) (by simp) (Nat.le_refl _)
  have y_p0_0 := ((Ext.refl w7).alloc (.cells #[.int .i64 n1, .slice t7a xs1.length t7c, .slice t7b ys1.length t7d] 28)).cell p0_0
  have y_p0_1 := ((Ext.refl w7).alloc (.cells #[.int .i64 n1, .slice t7a xs1.length t7c, .slice t7b ys1.length t7d] 28)).cell p0_1
  have y_p1_0 := ((Ext.refl w7).alloc (.cells #[.int .i64 n1, .slice t7a xs1.length t7c, .slice t7b ys1.length t7d] 28)).cell p1_0
  have y_p1_1 := ((Ext.refl w7).alloc (.cells #[.int .i64 n1, .slice t7a xs1.length t7c, .slice t7b ys1.length t7d] 28)).cell p1_1
  have y_p1_2 := ((Ext.refl w7).alloc (.cells #[.int .i64 n1, .slice t7a xs1.length t7c, .slice t7b ys1.length t7d] 28)).cell p1_2
  have y_x0_0 := ((Ext.refl w7).alloc (.cells #[.int .i64 n1, .slice t7a xs1.length t7c, .slice t7b ys1.length t7d] 28)).cell x0_0
  have y_x0_1 := ((Ext.refl w7).alloc (.cells #[.int .i64 n1, .slice t7a xs1.length t7c, .slice t7b ys1.length t7d] 28)).cell x0_1
  go_wp2_with fail
  refine (implIsConsistent_ok _ _ _ _ _ _ _ _ _ _ _ _ ((t6o.reads).ext ((Ext.refl _).alloc _)) ((t7o.one).ext ((Ext.refl _).alloc _)) ((t7o.two).ext ((Ext.refl _).alloc _)) hl0 hr0.out hl1 hk1).mono ?_
  clear y_p0_0 y_p0_1 y_p1_0 y_p1_1 y_p1_2 y_x0_0 y_x0_1
  rintro e w8 ⟨rfl, e8⟩
  have z8 := e8.size_le
  simp at z8
  replace p0_0 := (((Ext.refl w7).alloc _).trans e8).cell p0_0
  replace p0_1 := (((Ext.refl w7).alloc _).trans e8).cell p0_1
  replace p1_0 := (((Ext.refl w7).alloc _).trans e8).cell p1_0
  replace p1_1 := (((Ext.refl w7).alloc _).trans e8).cell p1_1
  replace p1_2 := (((Ext.refl w7).alloc _).trans e8).cell p1_2
  replace x0_0 := (((Ext.refl w7).alloc _).trans e8).cell x0_0
  replace x0_1 := (((Ext.refl w7).alloc _).trans e8).cell x0_1
  replace t6o := t6o.ext (((Ext.refl w7).alloc _).trans e8)
  replace t7o := t7o.ext (((Ext.refl w7).alloc _).trans e8)
  have x1_0 := e8.cell (p := ⟨w7.heap.size, 0, none⟩) (v := .int .i64 n1) (by simp)
  have x1_1 := e8.cell (p := ⟨w7.heap.size, 1, none⟩) (v := .slice t7a xs1.length t7c) (by simp)
  have x1_2 := e8.cell (p := ⟨w7.heap.size, 2, none⟩) (v := .slice t7b ys1.length t7d) (by simp)
  replace E := (E.alloc _).trans e8
  clear e8
  have q0 : ((consist n0 xss0 n1 xs1 ys1) != (consist n0 xss0 n1 xs1 ys1)) = false := by simp
  have qe0 := eqB_self n0 xss0
  have qe1 := eqPk_self n1 xs1 ys1
  go_wp2_with fail
  go_region_held3 (fun w' => w'.cell? ⟨w.heap.size, 0, none⟩ = some (.int .i64 n0) ∧ w'.cell? ⟨w.heap.size, 1, none⟩ = some (.slice a0 xss0.length c0) ∧ w'.cell? ⟨w.heap.size + 1, 0, none⟩ = some (.int .i64 n1) ∧ w'.cell? ⟨w.heap.size + 1, 1, none⟩ = some (.slice a1 xs1.length c1) ∧ w'.cell? ⟨w.heap.size + 1, 2, none⟩ = some (.slice b1 ys1.length d1) ∧ w'.cell? ⟨w6.heap.size, 0, none⟩ = some (.int .i64 n0) ∧ w'.cell? ⟨w6.heap.size, 1, none⟩ = some (.slice t6a xss0.length t6c) ∧ w'.cell? ⟨w7.heap.size, 0, none⟩ = some (.int .i64 n1) ∧ w'.cell? ⟨w7.heap.size, 1, none⟩ = some (.slice t7a xs1.length t7c) ∧ w'.cell? ⟨w7.heap.size, 2, none⟩ = some (.slice t7b ys1.length t7d))
    (first | go_keep | exact ⟨(e10).cell ((e9).cell (p0_0)), (e10).cell ((e9).cell (p0_1)), (e10).cell ((e9).cell (p1_0)), (e10).cell ((e9).cell (p1_1)), (e10).cell ((e9).cell (p1_2)), (e10).cell ((e9).cell (x0_0)), (e10).cell ((e9).cell (x0_1)), (e10).cell ((e9).cell (x1_0)), (e10).cell ((e9).cell (x1_1)), (e10).cell ((e9).cell (x1_2))⟩ | exact ⟨(e9).cell (p0_0), (e9).cell (p0_1), (e9).cell (p1_0), (e9).cell (p1_1), (e9).cell (p1_2), (e9).cell (x0_0), (e9).cell (x0_1), (e9).cell (x1_0), (e9).cell (x1_1), (e9).cell (x1_2)⟩)
    (first | (go_at_call 17; (with_reducible refine (toGeneration_ok _ _ _ _ _ (r0_0.ext (E.trans ((Ext.refl w8).drew))) hl0 hr0.out).mono ?_); rintro e w9 ⟨t9a, t9c, rfl, t9o, e9⟩) | (go_at_call 20; (with_reducible refine (eqGeneration_ok _ _ _ _ _ _ _ _ _ ((t6o.reads).ext (((Ext.refl w8).drew).trans e9)) (t9o.reads) hl0 hr0.out).mono ?_); rintro e w10 ⟨rfl, e10⟩))
  have z9 := (((Ext.refl w8).drew.trans e9)).size_le
  have z10 := (e10).size_le
  replace p0_0 := (e10).cell ((e9).cell (p0_0))
  replace p0_1 := (e10).cell ((e9).cell (p0_1))
  replace p1_0 := (e10).cell ((e9).cell (p1_0))
  replace p1_1 := (e10).cell ((e9).cell (p1_1))
  replace p1_2 := (e10).cell ((e9).cell (p1_2))
  replace x0_0 := (e10).cell ((e9).cell (x0_0))
  replace x0_1 := (e10).cell ((e9).cell (x0_1))
  replace x1_0 := (e10).cell ((e9).cell (x1_0))
  replace x1_1 := (e10).cell ((e9).cell (x1_1))
  replace x1_2 := (e10).cell ((e9).cell (x1_2))
  replace t6o := t6o.ext ((((Ext.refl w8).drew).trans e9).trans e10)
  replace t7o := t7o.ext ((((Ext.refl w8).drew).trans e9).trans e10)
  replace E := E.trans ((((Ext.refl w8).drew).trans e9).trans e10)
  go_wp2_with fail
  go_region_held3 (fun w' => w'.cell? ⟨w.heap.size, 0, none⟩ = some (.int .i64 n0) ∧ w'.cell? ⟨w.heap.size, 1, none⟩ = some (.slice a0 xss0.length c0) ∧ w'.cell? ⟨w.heap.size + 1, 0, none⟩ = some (.int .i64 n1) ∧ w'.cell? ⟨w.heap.size + 1, 1, none⟩ = some (.slice a1 xs1.length c1) ∧ w'.cell? ⟨w.heap.size + 1, 2, none⟩ = some (.slice b1 ys1.length d1) ∧ w'.cell? ⟨w6.heap.size, 0, none⟩ = some (.int .i64 n0) ∧ w'.cell? ⟨w6.heap.size, 1, none⟩ = some (.slice t6a xss0.length t6c) ∧ w'.cell? ⟨w7.heap.size, 0, none⟩ = some (.int .i64 n1) ∧ w'.cell? ⟨w7.heap.size, 1, none⟩ = some (.slice t7a xs1.length t7c) ∧ w'.cell? ⟨w7.heap.size, 2, none⟩ = some (.slice t7b ys1.length t7d))
    (first | go_keep | exact ⟨(e12).cell ((e11).cell (p0_0)), (e12).cell ((e11).cell (p0_1)), (e12).cell ((e11).cell (p1_0)), (e12).cell ((e11).cell (p1_1)), (e12).cell ((e11).cell (p1_2)), (e12).cell ((e11).cell (x0_0)), (e12).cell ((e11).cell (x0_1)), (e12).cell ((e11).cell (x1_0)), (e12).cell ((e11).cell (x1_1)), (e12).cell ((e11).cell (x1_2))⟩ | exact ⟨(e11).cell (p0_0), (e11).cell (p0_1), (e11).cell (p1_0), (e11).cell (p1_1), (e11).cell (p1_2), (e11).cell (x0_0), (e11).cell (x0_1), (e11).cell (x1_0), (e11).cell (x1_1), (e11).cell (x1_2)⟩)
    (first | (go_at_call 26; (with_reducible refine (toCodedPacket_ok _ _ _ _ _ _ _ _ (r1_0.ext (E.trans ((Ext.refl w10).drew))) (r1_1.ext (E.trans ((Ext.refl w10).drew))) hl1 hk1).mono ?_); rintro e w11 ⟨t11a, t11c, t11b, t11d, rfl, t11o, t11p, t11x, e11⟩) | (go_at_call 19; (with_reducible refine (eqCodedPacket_ok _ _ _ _ _ _ _ _ _ _ _ _ _ _ _ ((t7o.one).ext (((Ext.refl w10).drew).trans e11)) ((t7o.two).ext (((Ext.refl w10).drew).trans e11)) ((OPk.of t11o t11p t11x).one) ((OPk.of t11o t11p t11x).two) hl1 hk1).mono ?_); rintro e w12 ⟨rfl, e12⟩))
  have z11 := (((Ext.refl w10).drew.trans e11)).size_le
  have z12 := (e12).size_le
  replace p0_0 := (e12).cell ((e11).cell (p0_0))
  replace p0_1 := (e12).cell ((e11).cell (p0_1))
  replace p1_0 := (e12).cell ((e11).cell (p1_0))
  replace p1_1 := (e12).cell ((e11).cell (p1_1))
  replace p1_2 := (e12).cell ((e11).cell (p1_2))
  replace x0_0 := (e12).cell ((e11).cell (x0_0))
  replace x0_1 := (e12).cell ((e11).cell (x0_1))
  replace x1_0 := (e12).cell ((e11).cell (x1_0))
  replace x1_1 := (e12).cell ((e11).cell (x1_1))
  replace x1_2 := (e12).cell ((e11).cell (x1_2))
  replace t6o := t6o.ext ((((Ext.refl w10).drew).trans e11).trans e12)
  replace t7o := t7o.ext ((((Ext.refl w10).drew).trans e11).trans e12)
  replace E := E.trans ((((Ext.refl w10).drew).trans e11).trans e12)
  go_wp2_with fail
  go_ret
  exact ⟨rfl, E⟩

end Go.Proofs.Ytkbkfpcngonipaa
