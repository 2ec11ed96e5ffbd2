/- The laws of RowReduce, Rank, IsReduced. -/
import Derived.Test.YtkkblllhjcjcjaaRowR
import Derived.Test.YtkkblllhjcjcjaaLawTot
namespace Go.Proofs.Ytkkblllhjcjcjaa
open Go.RowKit
set_option linter.unusedVariables false
set_option maxRecDepth 20000

theorem rowRed_tot (m : List (List Int)) : (rowRed m).length ≤ 1048576 ∧ tot (rowRed m) ≤ 1048576 := by
  obtain ⟨h1, h2⟩ := rowRed_bound m
  have := tot_le h2
  omega

set_option maxHeartbeats 4000000 in
set_option maxRecDepth 100000 in
theorem lawRowReduce (a0 : Option Addr) (c0 : Nat) (xss0 : List (List Int)) (w : World) (r0_0 : MatR w a0 xss0) (m0_0 : xss0.length ≤ maxLen) (m0_1 : ∀ xs ∈ xss0, xs.length ≤ maxLen) :
    Calls Try.prog 13 #[.slice a0 xss0.length c0] w (Gives w (.bool true)) := by
  replace m0_1 := Lib.hid m0_1
  by_cases hs0 : szM xss0 1048576 < 0
  · skip
    go_enter Try.func13, Try.ntmps13
    go_wp2_with fail
    refine (szIntSS_ok _ _ _ _ _ (r0_0.ext (Ext.refl w)) m0_0 m0_1.out (by omega) (by omega)).mono ?_
    rintro e w1 ⟨rfl, rfl⟩
    go_wp2_with fail
    go_ret
    exact ⟨rfl, Ext.refl w⟩
  obtain ⟨hle0, heq0⟩ := szM_le (Int.not_lt.1 hs0)
  have hl0 : xss0.length ≤ 1048576 := by omega
  have hr0 : Hid (∀ xs ∈ xss0, xs.length ≤ 1048576) := fun xs hx => by have := rows_le hx; omega
  have ht0 : tot xss0 ≤ 1099511627776 := by omega
  have hu0 : tot xss0 ≤ 1048576 := by omega
  have hf0 : szM xss0 1048576 ≤ 1048576 := by omega
  have hg0 : 0 ≤ szM xss0 1048576 := by omega
  replace heq0 := Lib.hid heq0
  have hres : (rowRed xss0).length ≤ 1048576 ∧ tot (rowRed xss0) ≤ 1048576 := (rowRed_tot xss0)
  have hrr : Hid (∀ xs ∈ (rowRed xss0), xs.length ≤ 1048576) := fun xs hx => by have := rows_le hx; omega
  obtain ⟨hres1, hres2⟩ := hres
  have hres : (rowRed xss0).length ≤ 1048576 ∧ tot (rowRed xss0) ≤ 1048576 := ⟨hres1, hres2⟩
  go_enter Try.func13, Try.ntmps13
  go_wp2_with fail
  refine (szIntSS_ok _ _ _ _ _ (r0_0.ext (Ext.refl w)) m0_0 m0_1.out (by omega) (by omega)).mono ?_
  rintro e w1 ⟨rfl, rfl⟩
  go_wp2_with fail
  refine (toIntSS_ok _ _ _ _ (r0_0.ext (Ext.refl w)) hl0 hr0.out).mono ?_
  rintro e w1 ⟨t1a, t1c, rfl, t1o, e1⟩
  have E := (Ext.refl w).trans e1
  have z0 := e1.size_le
  go_wp2_with fail
  refine (specRowReduce_ok _ _ _ _ (t1o.reads) hl0 hr0.out).mono ?_
  rintro e w2 ⟨u0a, u0c, rfl, u0o, e2⟩
  have z2 := e2.size_le
  replace t1o := t1o.ext e2
  replace E := E.trans e2
  clear e2
  go_wp2_with fail
  refine (toIntSS_ok _ _ _ _ (r0_0.ext (E)) hl0 hr0.out).mono ?_
  rintro e w3 ⟨t3a, t3c, rfl, t3o, e3⟩
  have z3 := e3.size_le
  replace u0o := u0o.ext e3
  replace E := E.trans e3
  clear e3
  go_wp2_with fail
  refine (implRowReduce_ok _ _ _ _ (t3o.reads) hl0 hr0.out).mono ?_
  rintro e w4 ⟨u1a, u1c, rfl, u1o, e4⟩
  have z4 := e4.size_le
  replace u0o := u0o.ext e4
  replace t3o := t3o.ext e4
  replace E := E.trans e4
  clear e4
  go_wp2_with fail
  refine (eqIntSS_ok _ _ _ _ _ _ _ (u1o.reads) (u0o.reads) (by omega) (fun xs hx => Nat.le_trans (hrr.out xs hx) (by omega))).mono ?_
  rintro e w5 ⟨rfl, e5⟩
  replace e5 := Dr.ext e5
  have z5 := e5.size_le
  replace u0o := u0o.ext e5
  replace t3o := t3o.ext e5
  replace u1o := u1o.ext e5
  replace E := E.trans e5
  clear e5
  go_wp2_with fail
  refine (toIntSS_ok _ _ _ _ (r0_0.ext (E)) hl0 hr0.out).mono ?_
  rintro e w6 ⟨t6a, t6c, rfl, t6o, e6⟩
  have z6 := e6.size_le
  replace u0o := u0o.ext e6
  replace t3o := t3o.ext e6
  replace u1o := u1o.ext e6
  replace E := E.trans e6
  clear e6
  go_wp2_with fail
  refine (eqIntSS_ok _ _ _ _ _ _ _ (t3o.reads) (t6o.reads) (by omega) (fun xs hx => Nat.le_trans (hr0.out xs hx) (by omega))).mono ?_
  rintro e w7 ⟨rfl, e7⟩
  replace e7 := Dr.ext e7
  have z7 := e7.size_le
  replace u0o := u0o.ext e7
  replace t3o := t3o.ext e7
  replace u1o := u1o.ext e7
  replace E := E.trans e7
  clear e7
  go_wp2_with fail
  refine (markIntSS_ok _ _ _ _ _ _ _ t3o (by omega) ht0 (by omega) (by omega)).mono ?_
  rintro e w8 ⟨rfl, t3o', s8⟩
  have z8 := s8.size
  replace u0o := u0o.span s8 (by omega)
  replace u1o := u1o.span s8 (by omega)
  replace E := Span.ext E s8 (by omega)
  clear s8 t3o
  have t3o := t3o'
  clear t3o'
  go_wp2_with fail
  refine (eqIntSS_ok _ _ _ _ _ _ _ (u1o.reads) (u0o.reads) (by omega) (fun xs hx => Nat.le_trans (hrr.out xs hx) (by omega))).mono ?_
  rintro e w9 ⟨rfl, e9⟩
  replace e9 := Dr.ext e9
  have z9 := e9.size_le
  replace u0o := u0o.ext e9
  replace u1o := u1o.ext e9
  replace E := E.trans e9
  clear e9
  go_wp2_with fail
  refine (markIntSS_ok _ _ _ _ _ _ _ u1o (by omega) (Nat.le_trans hres.2 (by omega)) (by omega) (by omega)).mono ?_
  rintro e w10 ⟨rfl, u1o', s10⟩
  have z10 := s10.size
  replace u0o := u0o.span s10 (by omega)
  replace E := Span.ext E s10 (by omega)
  clear s10 u1o
  have u1o := u1o'
  clear u1o'
  go_wp2_with fail
  refine (heldIntSS_ok _ _ _ _ _ (u1o.reads) (by omega) (Nat.le_trans hres.2 (by omega)) (by omega) (by omega)).mono ?_
  rintro e w11 ⟨rfl, rfl⟩
  go_wp2_with fail
  refine (toIntSS_ok _ _ _ _ (r0_0.ext (E)) hl0 hr0.out).mono ?_
  rintro e w11 ⟨t11a, t11c, rfl, t11o, e11⟩
  have z11 := e11.size_le
  replace u0o := u0o.ext e11
  replace u1o := u1o.ext e11
  replace E := E.trans e11
  clear e11
  go_wp2_with fail
  refine (implRowReduce_ok _ _ _ _ (t11o.reads) hl0 hr0.out).mono ?_
  rintro e w12 ⟨u2a, u2c, rfl, u2o, e12⟩
  have z12 := e12.size_le
  replace u0o := u0o.ext e12
  replace u1o := u1o.ext e12
  replace t11o := t11o.ext e12
  replace E := E.trans e12
  clear e12
  go_wp2_with fail
  refine (eqIntSS_ok _ _ _ _ _ _ _ (u2o.reads) (u0o.reads) (by omega) (fun xs hx => Nat.le_trans (hrr.out xs hx) (by omega))).mono ?_
  rintro e w13 ⟨rfl, e13⟩
  replace e13 := Dr.ext e13
  have z13 := e13.size_le
  replace u0o := u0o.ext e13
  replace u1o := u1o.ext e13
  replace u2o := u2o.ext e13
  replace E := E.trans e13
  clear e13
  go_wp2_with fail
  refine (heldIntSS_ok _ _ _ _ _ (u1o.reads) (by omega) (Nat.le_trans hres.2 (by omega)) (by omega) (by omega)).mono ?_
  rintro e w14 ⟨rfl, rfl⟩
  go_wp2_with fail
  go_ret
  exact ⟨rfl, E⟩

set_option maxHeartbeats 4000000 in
set_option maxRecDepth 100000 in
theorem lawRank (a0 : Option Addr) (c0 : Nat) (xss0 : List (List Int)) (w : World) (r0_0 : MatR w a0 xss0) (m0_0 : xss0.length ≤ maxLen) (m0_1 : ∀ xs ∈ xss0, xs.length ≤ maxLen) :
    Calls Try.prog 12 #[.slice a0 xss0.length c0] w (Gives w (.bool true)) := by
  replace m0_1 := Lib.hid m0_1
  by_cases hs0 : szM xss0 1048576 < 0
  · skip
    go_enter Try.func12, Try.ntmps12
    go_wp2_with fail
    refine (szIntSS_ok _ _ _ _ _ (r0_0.ext (Ext.refl w)) m0_0 m0_1.out (by omega) (by omega)).mono ?_
    rintro e w1 ⟨rfl, rfl⟩
    go_wp2_with fail
    go_ret
    exact ⟨rfl, Ext.refl w⟩
  obtain ⟨hle0, heq0⟩ := szM_le (Int.not_lt.1 hs0)
  have hl0 : xss0.length ≤ 1048576 := by omega
  have hr0 : Hid (∀ xs ∈ xss0, xs.length ≤ 1048576) := fun xs hx => by have := rows_le hx; omega
  have ht0 : tot xss0 ≤ 1099511627776 := by omega
  have hu0 : tot xss0 ≤ 1048576 := by omega
  have hf0 : szM xss0 1048576 ≤ 1048576 := by omega
  have hg0 : 0 ≤ szM xss0 1048576 := by omega
  replace heq0 := Lib.hid heq0
  go_enter Try.func12, Try.ntmps12
  go_wp2_with fail
  refine (szIntSS_ok _ _ _ _ _ (r0_0.ext (Ext.refl w)) m0_0 m0_1.out (by omega) (by omega)).mono ?_
  rintro e w1 ⟨rfl, rfl⟩
  go_wp2_with fail
  refine (toIntSS_ok _ _ _ _ (r0_0.ext (Ext.refl w)) hl0 hr0.out).mono ?_
  rintro e w1 ⟨t1a, t1c, rfl, t1o, e1⟩
  have E := (Ext.refl w).trans e1
  have z0 := e1.size_le
  go_wp2_with fail
  refine (specRank_ok _ _ _ _ (t1o.reads) hl0 hr0.out).mono ?_
  rintro e w2 ⟨rfl, e2⟩
  have z2 := e2.size_le
  replace t1o := t1o.ext e2
  replace E := E.trans e2
  clear e2
  go_wp2_with fail
  refine (toIntSS_ok _ _ _ _ (r0_0.ext (E)) hl0 hr0.out).mono ?_
  rintro e w3 ⟨t3a, t3c, rfl, t3o, e3⟩
  have z3 := e3.size_le
  replace E := E.trans e3
  clear e3
  go_wp2_with fail
  refine (implRank_ok _ _ _ _ (t3o.reads) hl0 hr0.out).mono ?_
  rintro e w4 ⟨rfl, e4⟩
  have z4 := e4.size_le
  replace t3o := t3o.ext e4
  replace E := E.trans e4
  clear e4
  have q0 : (((((rowRed xss0).length : Nat) : Int)) != ((((rowRed xss0).length : Nat) : Int))) = false := by simp
  go_wp2_with fail
  refine (toIntSS_ok _ _ _ _ (r0_0.ext (E)) hl0 hr0.out).mono ?_
  rintro e w5 ⟨t5a, t5c, rfl, t5o, e5⟩
  have z5 := e5.size_le
  replace t3o := t3o.ext e5
  replace E := E.trans e5
  clear e5
  go_wp2_with fail
  refine (eqIntSS_ok _ _ _ _ _ _ _ (t3o.reads) (t5o.reads) (by omega) (fun xs hx => Nat.le_trans (hr0.out xs hx) (by omega))).mono ?_
  rintro e w6 ⟨rfl, e6⟩
  replace e6 := Dr.ext e6
  have z6 := e6.size_le
  replace t3o := t3o.ext e6
  replace E := E.trans e6
  clear e6
  go_wp2_with fail
  go_ret
  exact ⟨rfl, E⟩

set_option maxHeartbeats 4000000 in
set_option maxRecDepth 100000 in
theorem lawIsReduced (a0 : Option Addr) (c0 : Nat) (xss0 : List (List Int)) (w : World) (r0_0 : MatR w a0 xss0) (m0_0 : xss0.length ≤ maxLen) (m0_1 : ∀ xs ∈ xss0, xs.length ≤ maxLen) :
    Calls Try.prog 3 #[.slice a0 xss0.length c0] w (Gives w (.bool true)) := by
  replace m0_1 := Lib.hid m0_1
  by_cases hs0 : szM xss0 1048576 < 0
  · skip
    go_enter Try.func3, Try.ntmps3
    go_wp2_with fail
    refine (szIntSS_ok _ _ _ _ _ (r0_0.ext (Ext.refl w)) m0_0 m0_1.out (by omega) (by omega)).mono ?_
    rintro e w1 ⟨rfl, rfl⟩
    go_wp2_with fail
    go_ret
    exact ⟨rfl, Ext.refl w⟩
  obtain ⟨hle0, heq0⟩ := szM_le (Int.not_lt.1 hs0)
  have hl0 : xss0.length ≤ 1048576 := by omega
  have hr0 : Hid (∀ xs ∈ xss0, xs.length ≤ 1048576) := fun xs hx => by have := rows_le hx; omega
  have ht0 : tot xss0 ≤ 1099511627776 := by omega
  have hu0 : tot xss0 ≤ 1048576 := by omega
  have hf0 : szM xss0 1048576 ≤ 1048576 := by omega
  have hg0 : 0 ≤ szM xss0 1048576 := by omega
  replace heq0 := Lib.hid heq0
  go_enter Try.func3, Try.ntmps3
  go_wp2_with fail
  refine (szIntSS_ok _ _ _ _ _ (r0_0.ext (Ext.refl w)) m0_0 m0_1.out (by omega) (by omega)).mono ?_
  rintro e w1 ⟨rfl, rfl⟩
  go_wp2_with fail
  refine (toIntSS_ok _ _ _ _ (r0_0.ext (Ext.refl w)) hl0 hr0.out).mono ?_
  rintro e w1 ⟨t1a, t1c, rfl, t1o, e1⟩
  have E := (Ext.refl w).trans e1
  have z0 := e1.size_le
  go_wp2_with fail
  refine (specIsReduced_ok _ _ _ _ (t1o.reads) hl0 hr0.out).mono ?_
  rintro e w2 ⟨rfl, e2⟩
  have z2 := e2.size_le
  replace t1o := t1o.ext e2
  replace E := E.trans e2
  clear e2
  go_wp2_with fail
  refine (toIntSS_ok _ _ _ _ (r0_0.ext (E)) hl0 hr0.out).mono ?_
  rintro e w3 ⟨t3a, t3c, rfl, t3o, e3⟩
  have z3 := e3.size_le
  replace E := E.trans e3
  clear e3
  go_wp2_with fail
  refine (implIsReduced_ok _ _ _ _ (t3o.reads) hl0 hr0.out).mono ?_
  rintro e w4 ⟨rfl, e4⟩
  have z4 := e4.size_le
  replace t3o := t3o.ext e4
  replace E := E.trans e4
  clear e4
  have q0 : ((isRedB xss0) != (isRedB xss0)) = false := by simp
  go_wp2_with fail
  refine (toIntSS_ok _ _ _ _ (r0_0.ext (E)) hl0 hr0.out).mono ?_
  rintro e w5 ⟨t5a, t5c, rfl, t5o, e5⟩
  have z5 := e5.size_le
  replace t3o := t3o.ext e5
  replace E := E.trans e5
  clear e5
  go_wp2_with fail
  refine (eqIntSS_ok _ _ _ _ _ _ _ (t3o.reads) (t5o.reads) (by omega) (fun xs hx => Nat.le_trans (hr0.out xs hx) (by omega))).mono ?_
  rintro e w6 ⟨rfl, e6⟩
  replace e6 := Dr.ext e6
  have z6 := e6.size_le
  replace t3o := t3o.ext e6
  replace E := E.trans e6
  clear e6
  go_wp2_with fail
  go_ret
  exact ⟨rfl, E⟩

end Go.Proofs.Ytkkblllhjcjcjaa
