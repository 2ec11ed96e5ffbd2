/- The law of JoinGenerations; how an argument is opened. -/
import Derived.Test.YtkegknophppdgaaJos
import Derived.Test.YtkegknophppdgaaLawTot
import Derived.Test.YtkegknophppdgaaOpnG
namespace Go.Proofs.Ytkegknophppdgaa
open Go.RowKit
set_option linter.unusedVariables false
set_option maxRecDepth 20000

def SRg (w : World) (a : Option Addr) (gs : List Gn) : Prop := SR GK w a gs
theorem SRg.ext {w w' : World} {a : Option Addr} {gs : List Gn} (h : SRg w a gs) (he : Ext w w') : SRg w' a gs := SR.ext GK_ok h he
theorem szGl_eq : ∀ {gs : List Gn} {l : Int}, 0 ≤ l → 0 ≤ szGl gs l → szGl gs l = l - sumG gs
  | [], l, _, _ => by simp [szGl, sumG]
  | g :: r, l, h, h2 => by
    simp only [szGl] at h2 ⊢
    split at h2
    · omega
    · rename_i hn
      rw [if_neg hn]
      have h3 := szM_le (Int.not_lt.1 hn)
      rw [szGl_eq (Int.not_lt.1 hn) h2]
      simp only [sumG]
      omega
theorem szGs_le2 {gs : List Gn} {left : Int} (h : 0 ≤ szGs gs left) : (gs.length : Int) + sumG gs ≤ left ∧ szGs gs left = left - gs.length - sumG gs := by
  refine ⟨szGs_le h, ?_⟩
  unfold szGs at h ⊢
  split at h
  · omega
  · rename_i hn
    rw [if_neg hn, szGl_eq (by omega) h]
theorem joinD_len (gs : List Gn) : (joinD gs).length ≤ 1048576 := by
  unfold joinD
  split
  · exact us_len _
  · simp

set_option maxHeartbeats 4000000 in
set_option maxRecDepth 100000 in
theorem lawJoinGenerations (a0 : Option Addr) (c0 : Nat) (xs0 : List Gn) (w : World) (r0_0 : SRg w a0 xs0) (m0_0 : xs0.length ≤ maxLen) (m0_1 : ∀ g ∈ xs0, g.2.length ≤ maxLen ∧ ∀ xs ∈ g.2, xs.length ≤ maxLen) :
    Calls Try.prog 9 #[.slice a0 xs0.length c0] w (Gives w (.bool true)) := by
  replace m0_1 := Lib.hid m0_1
  by_cases hs0 : szGs xs0 1048576 < 0
  · skip
    go_enter Try.func9, Try.ntmps9
    go_wp2_with fail
    refine (szGenerationS_ok _ _ _ _ _ (r0_0.ext (Ext.refl w)) m0_0 m0_1.out (by omega) (by omega)).mono ?_
    rintro e w1 ⟨rfl, e1⟩
    have E := (Ext.refl w).trans e1
    have z0 := e1.size_le
    go_wp2_with fail
    go_ret
    exact ⟨rfl, E⟩
  obtain ⟨hle0, heq0⟩ := szGs_le2 (Int.not_lt.1 hs0)
  have hl0 : xs0.length ≤ 1048576 := by omega
  have hu0 : sumG xs0 ≤ 1048576 := by omega
  have hr0 : Hid (∀ g ∈ xs0, g.2.length ≤ 1048576 ∧ ∀ xs ∈ g.2, xs.length ≤ 1048576) := fun g hg => by have := sumG_mem hg; exact ⟨by omega, fun x hx => by have := rows_le hx; omega⟩
  have ht0 : totG xs0 ≤ 1048576 := by have := totG_sum xs0; omega
  have hf0 : szGs xs0 1048576 ≤ 1048576 := by omega
  have hg0 : 0 ≤ szGs xs0 1048576 := by omega
  replace heq0 := Lib.hid heq0
  have hres : (joinD xs0).length ≤ 1048576 := joinD_len xs0
  go_enter Try.func9, Try.ntmps9
  go_wp2_with fail
  refine (szGenerationS_ok _ _ _ _ _ (r0_0.ext (Ext.refl w)) m0_0 m0_1.out (by omega) (by omega)).mono ?_
  rintro e w1 ⟨rfl, e1⟩
  have E := (Ext.refl w).trans e1
  have z0 := e1.size_le
  go_wp2_with fail
  refine (toGenerationS_ok _ _ _ _ (r0_0.ext (E)) hl0 hr0.out).mono ?_
  rintro e w2 ⟨t2a, t2c, rfl, t2o, e2⟩
  have z2 := e2.size_le
  replace E := E.trans e2
  clear e2
  go_wp2_with fail
  refine (specJoinGenerations_ok _ _ _ _ (t2o.reads) hl0 hu0 (fun g hg => (hr0.out g hg).2)).mono ?_
  rintro e w3 ⟨u0a, u0c, rfl, u0o, e3⟩
  have z3 := e3.size_le
  replace t2o := t2o.ext e3
  replace E := E.trans e3
  clear e3
  replace u0o := OB.of u0o
  go_wp2_with fail
  refine (toGenerationS_ok _ _ _ _ (r0_0.ext (E)) hl0 hr0.out).mono ?_
  rintro e w4 ⟨t4a, t4c, rfl, t4o, e4⟩
  have z4 := e4.size_le
  replace u0o := u0o.ext e4
  replace E := E.trans e4
  clear e4
  go_wp2_with fail
  refine (implJoinGenerations_ok _ _ _ _ (t4o.reads) hl0 hu0 (fun g hg => (hr0.out g hg).2)).mono ?_
  rintro e w5 ⟨u1a, u1c, rfl, u1o, e5⟩
  have z5 := e5.size_le
  replace u0o := u0o.ext e5
  replace t4o := t4o.ext e5
  replace E := E.trans e5
  clear e5
  replace u1o := OB.of u1o
  have qflag : ((joinOk xs0) != (joinOk xs0)) = false := by simp
  go_wp2_with fail
  refine (eqByteS_ok _ _ _ _ _ _ _ (u1o.vals) (u0o.vals) (by omega)).mono ?_
  rintro e w6 ⟨rfl, e6⟩
  replace e6 := Dr.ext e6
  have z6 := e6.size_le
  replace u0o := u0o.ext e6
  replace t4o := t4o.ext e6
  replace u1o := u1o.ext e6
  replace E := E.trans e6
  clear e6
  go_wp2_with fail
  refine (toGenerationS_ok _ _ _ _ (r0_0.ext (E)) hl0 hr0.out).mono ?_
  rintro e w7 ⟨t7a, t7c, rfl, t7o, e7⟩
  have z7 := e7.size_le
  replace u0o := u0o.ext e7
  replace t4o := t4o.ext e7
  replace u1o := u1o.ext e7
  replace E := E.trans e7
  clear e7
  go_wp2_with fail
  refine (eqGenerationS_self _ _ _ _ _ _ (t4o.reads) (t7o.reads) hl0 hr0.out).mono ?_
  rintro e w8 ⟨rfl, e8⟩
  have z8 := e8.size_le
  replace u0o := u0o.ext e8
  replace t4o := t4o.ext e8
  replace u1o := u1o.ext e8
  replace E := E.trans e8
  clear e8
  go_wp2_with fail
  refine (markGenerationS_ok _ _ _ _ _ _ _ t4o hl0 ht0 (fun g hg => (hr0.out g hg).1) (by omega) (by omega)).mono ?_
  rintro e w9 ⟨rfl, t4o', s9⟩
  have z9 := s9.size
  replace u0o := u0o.span s9 (by omega)
  replace u1o := u1o.span s9 (by omega)
  replace E := Span.ext E s9 (by omega)
  clear s9 t4o
  have t4o := t4o'
  clear t4o'
  go_wp2_with fail
  refine (eqByteS_ok _ _ _ _ _ _ _ (u1o.vals) (u0o.vals) (by omega)).mono ?_
  rintro e w10 ⟨rfl, e10⟩
  replace e10 := Dr.ext e10
  have z10 := e10.size_le
  replace u0o := u0o.ext e10
  replace u1o := u1o.ext e10
  replace E := E.trans e10
  clear e10
  go_wp2_with fail
  refine (markByteS_ok _ _ _ _ _ _ _ u1o (by omega) (by omega) (by omega)).mono ?_
  rintro e w11 ⟨rfl, u1o', s11⟩
  have z11 := s11.size
  replace u0o := u0o.span s11 (by omega)
  replace E := Span.ext E s11 (by omega)
  clear s11 u1o
  have u1o := u1o'
  clear u1o'
  go_wp2_with fail
  refine (heldByteS_ok _ _ _ _ _ (u1o.vals) (by omega) (by omega) (by omega)).mono ?_
  rintro e w12 ⟨rfl, rfl⟩
  go_wp2_with fail
  refine (toGenerationS_ok _ _ _ _ (r0_0.ext (E)) hl0 hr0.out).mono ?_
  rintro e w12 ⟨t12a, t12c, rfl, t12o, e12⟩
  have z12 := e12.size_le
  replace u0o := u0o.ext e12
  replace u1o := u1o.ext e12
  replace E := E.trans e12
  clear e12
  go_wp2_with fail
  refine (implJoinGenerations_ok _ _ _ _ (t12o.reads) hl0 hu0 (fun g hg => (hr0.out g hg).2)).mono ?_
  rintro e w13 ⟨u2a, u2c, rfl, u2o, e13⟩
  have z13 := e13.size_le
  replace u0o := u0o.ext e13
  replace u1o := u1o.ext e13
  replace t12o := t12o.ext e13
  replace E := E.trans e13
  clear e13
  replace u2o := OB.of u2o
  go_wp2_with fail
  refine (eqByteS_ok _ _ _ _ _ _ _ (u2o.vals) (u0o.vals) (by omega)).mono ?_
  rintro e w14 ⟨rfl, e14⟩
  replace e14 := Dr.ext e14
  have z14 := e14.size_le
  replace u0o := u0o.ext e14
  replace u1o := u1o.ext e14
  replace u2o := u2o.ext e14
  replace E := E.trans e14
  clear e14
  go_wp2_with fail
  refine (heldByteS_ok _ _ _ _ _ (u1o.vals) (by omega) (by omega) (by omega)).mono ?_
  rintro e w15 ⟨rfl, rfl⟩
  go_wp2_with fail
  go_ret
  exact ⟨rfl, E⟩

end Go.Proofs.Ytkegknophppdgaa
