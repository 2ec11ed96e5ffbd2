/- The law of SplitMessage. -/
import Derived.Test.YtkegknophppdgaaSpl
import Derived.Test.YtkegknophppdgaaLawTot
namespace Go.Proofs.Ytkegknophppdgaa
open Go.RowKit
set_option linter.unusedVariables false
set_option maxRecDepth 20000

theorem totG_bound {n : Nat} : ∀ {gs : List Gn}, (∀ g ∈ gs, tot g.2 ≤ n) → totG gs ≤ gs.length * (n + 1)
  | [], _ => by simp [totG]
  | g :: r, h => by
    have h1 := h g (by simp)
    have h2 := totG_bound (gs := r) (fun x hx => h x (by simp [hx]))
    simp only [totG, List.length_cons, Nat.add_mul]
    omega
theorem splG_bound (ds : List Int) (m s f : Int) : (splG ds m s f).length ≤ 1048576 ∧ totG (splG ds m s f) ≤ 1048575 ∧ ∀ g ∈ splG ds m s f, g.2.length ≤ 1048576 ∧ ∀ xs ∈ g.2, xs.length ≤ 1048576 := by
  unfold splG
  split
  · rename_i hc
    rw [Bool.and_eq_true] at hc
    have hs := inR_true.1 hc.1
    have hl := syms_len ds m
    have hn := symN_le (m := s.toNat) (len := (syms ds m).length) (by omega)
    have hrow : ∀ g ∈ splTo (syms ds m) s.toNat f (symN s.toNat (syms ds m).length), g.2.length ≤ 8 ∧ ∀ xs ∈ g.2, xs.length ≤ 16 := fun g hg => by
      unfold splTo at hg
      obtain ⟨t, _, rfl⟩ := List.mem_map.1 hg
      refine ⟨by show ((List.drop _ _).take _).length ≤ 8; rw [List.length_take]; omega, fun xs hx => ?_⟩
      have := syms_rows (List.mem_of_mem_drop (List.mem_of_mem_take hx))
      have := inR_true.1 this.1
      omega
    refine ⟨by rw [splTo_length]; omega, ?_, fun g hg => ?_⟩
    · have := totG_bound (n := 128) (gs := splTo (syms ds m) s.toNat f (symN s.toNat (syms ds m).length)) (fun g hg => by
        obtain ⟨h1, h2⟩ := hrow g hg
        have h3 := tot_le h2
        have h4 : g.2.length * 16 ≤ 8 * 16 := Nat.mul_le_mul_right _ h1
        omega)
      rw [splTo_length] at this
      have h5 : symN s.toNat (syms ds m).length * (128 + 1) ≤ 407 * (128 + 1) := Nat.mul_le_mul_right _ (by omega)
      omega
    · obtain ⟨h1, h2⟩ := hrow g hg
      exact ⟨by omega, fun xs hx => by have := h2 xs hx; omega⟩
  · simp [totG]

set_option maxHeartbeats 4000000 in
set_option maxRecDepth 100000 in
theorem lawSplitMessage (a0 : Option Addr) (c0 : Nat) (xs0 : List Int) (n1 : Int) (n2 : Int) (n3 : Int) (w : World) (r0_0 : Vals w a0 (Y xs0)) (m0_0 : xs0.length ≤ maxLen) (m0_1 : ∀ x ∈ xs0, 0 ≤ x ∧ x ≤ 255) :
    Calls Try.prog 3 #[.slice a0 xs0.length c0, .int .i64 n1, .int .i64 n2, .int .i64 n3] w (Gives w (.bool true)) := by
  replace m0_1 := Lib.hid m0_1
  by_cases hl0 : xs0.length ≤ 1048576
  rotate_left
  · have d0 : (1048576 : Int) < (xs0.length : Int) := by omega
    unfold maxLen at m0_0
    go_enter Try.func3, Try.ntmps3
    go_wp2_with fail
    go_ret
    exact ⟨rfl, Ext.refl w⟩
  have d0 : decide ((1048576 : Int) < (xs0.length : Int)) = false := by simp; omega
  have hres : (splG xs0 n1 n2 n3).length ≤ 1048576 ∧ totG (splG xs0 n1 n2 n3) ≤ 1048575 ∧ ∀ g ∈ (splG xs0 n1 n2 n3), g.2.length ≤ 1048576 ∧ ∀ xs ∈ g.2, xs.length ≤ 1048576 := (splG_bound xs0 n1 n2 n3)
  obtain ⟨hres1, hres2, hres3⟩ := hres
  have hrr : Hid (∀ g ∈ (splG xs0 n1 n2 n3), g.2.length ≤ 1048576 ∧ ∀ xs ∈ g.2, xs.length ≤ 1048576) := hres3
  clear hres3
  go_enter Try.func3, Try.ntmps3
  go_wp2_with fail
  refine (toByteS_ok _ _ _ _ (r0_0.ext (Ext.refl w)) hl0).mono ?_
  rintro e w1 ⟨t1a, t1c, rfl, t1o, e1⟩
  have E := (Ext.refl w).trans e1
  have z0 := e1.size_le
  replace t1o := OB.of t1o
  go_wp2_with fail
  refine (specSplitMessage_ok _ _ _ _ _ _ _ (t1o.vals) hl0 m0_1.out).mono ?_
  rintro e w2 ⟨u0a, u0c, rfl, u0o, e2⟩
  have z2 := e2.size_le
  replace t1o := t1o.ext e2
  replace E := E.trans e2
  clear e2
  go_wp2_with fail
  refine (toByteS_ok _ _ _ _ (r0_0.ext (E)) hl0).mono ?_
  rintro e w3 ⟨t3a, t3c, rfl, t3o, e3⟩
  have z3 := e3.size_le
  replace u0o := u0o.ext e3
  replace E := E.trans e3
  clear e3
  replace t3o := OB.of t3o
  go_wp2_with fail
  refine (implSplitMessage_ok _ _ _ _ _ _ _ (t3o.vals) hl0 m0_1.out).mono ?_
  rintro e w4 ⟨u1a, u1c, rfl, u1o, e4⟩
  have z4 := e4.size_le
  replace u0o := u0o.ext e4
  replace t3o := t3o.ext e4
  replace E := E.trans e4
  clear e4
  go_wp2_with fail
  refine (eqGenerationS_self _ _ _ _ _ _ (u1o.reads) (u0o.reads) hres1 hrr.out).mono ?_
  rintro e w5 ⟨rfl, e5⟩
  have z5 := e5.size_le
  replace u0o := u0o.ext e5
  replace t3o := t3o.ext e5
  replace u1o := u1o.ext e5
  replace E := E.trans e5
  clear e5
  go_wp2_with fail
  refine (toByteS_ok _ _ _ _ (r0_0.ext (E)) hl0).mono ?_
  rintro e w6 ⟨t6a, t6c, rfl, t6o, e6⟩
  have z6 := e6.size_le
  replace u0o := u0o.ext e6
  replace t3o := t3o.ext e6
  replace u1o := u1o.ext e6
  replace E := E.trans e6
  clear e6
  replace t6o := OB.of t6o
  go_wp2_with fail
  refine (eqByteS_ok _ _ _ _ _ _ _ (t3o.vals) (t6o.vals) (by omega)).mono ?_
  rintro e w7 ⟨rfl, e7⟩
  replace e7 := Dr.ext e7
  have z7 := e7.size_le
  replace u0o := u0o.ext e7
  replace t3o := t3o.ext e7
  replace u1o := u1o.ext e7
  replace E := E.trans e7
  clear e7
  go_wp2_with fail
  refine (markByteS_ok _ _ _ _ _ _ _ t3o (by omega) (by omega) (by omega)).mono ?_
  rintro e w8 ⟨rfl, t3o', s8⟩
  have z8 := s8.size
  replace u0o := u0o.span s8 (by omega)
  replace u1o := u1o.span s8 (by omega)
  replace E := Span.ext E s8 (by omega)
  clear s8 t3o
  have t3o := t3o'
  clear t3o'
  go_wp2_with fail
  refine (eqGenerationS_self _ _ _ _ _ _ (u1o.reads) (u0o.reads) hres1 hrr.out).mono ?_
  rintro e w9 ⟨rfl, e9⟩
  have z9 := e9.size_le
  replace u0o := u0o.ext e9
  replace u1o := u1o.ext e9
  replace E := E.trans e9
  clear e9
  go_wp2_with fail
  refine (markGenerationS_ok _ _ _ _ _ _ _ u1o hres1 (by omega) (fun g hg => (hrr.out g hg).1) (by omega) (by omega)).mono ?_
  rintro e w10 ⟨rfl, u1o', s10⟩
  have z10 := s10.size
  replace u0o := u0o.span s10 (by omega)
  replace E := Span.ext E s10 (by omega)
  clear s10 u1o
  have u1o := u1o'
  clear u1o'
  go_wp2_with fail
  refine (heldGenerationS_ok _ _ _ _ _ (u1o.reads) hres1 (fun g hg => (hrr.out g hg).1) (by omega) (by omega)).mono ?_
  rintro e w11 ⟨rfl, rfl⟩
  go_wp2_with fail
  refine (toByteS_ok _ _ _ _ (r0_0.ext (E)) hl0).mono ?_
  rintro e w11 ⟨t11a, t11c, rfl, t11o, e11⟩
  have z11 := e11.size_le
  replace u0o := u0o.ext e11
  replace u1o := u1o.ext e11
  replace E := E.trans e11
  clear e11
  replace t11o := OB.of t11o
  go_wp2_with fail
  refine (implSplitMessage_ok _ _ _ _ _ _ _ (t11o.vals) hl0 m0_1.out).mono ?_
  rintro e w12 ⟨u2a, u2c, rfl, u2o, e12⟩
  have z12 := e12.size_le
  replace u0o := u0o.ext e12
  replace u1o := u1o.ext e12
  replace t11o := t11o.ext e12
  replace E := E.trans e12
  clear e12
  go_wp2_with fail
  refine (eqGenerationS_self _ _ _ _ _ _ (u2o.reads) (u0o.reads) hres1 hrr.out).mono ?_
  rintro e w13 ⟨rfl, e13⟩
  have z13 := e13.size_le
  replace u0o := u0o.ext e13
  replace u1o := u1o.ext e13
  replace u2o := u2o.ext e13
  replace E := E.trans e13
  clear e13
  go_wp2_with fail
  refine (heldGenerationS_ok _ _ _ _ _ (u1o.reads) hres1 (fun g hg => (hrr.out g hg).1) (by omega) (by omega)).mono ?_
  rintro e w14 ⟨rfl, rfl⟩
  go_wp2_with fail
  go_ret
  exact ⟨rfl, E⟩

end Go.Proofs.Ytkegknophppdgaa
