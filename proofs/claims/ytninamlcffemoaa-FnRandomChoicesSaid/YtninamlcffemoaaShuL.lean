/- Shuffle: the reference's contract and the law. -/
import Derived.Test.YtninamlcffemoaaCho
import Derived.Test.YtninamlcffemoaaVec
namespace Go.Proofs.Ytninamlcffemoaa
open Go.RowKit
set_option linter.unusedVariables false
set_option maxRecDepth 20000

theorem specShuffle_ok (s n : Int) (w : World) : Calls Try.prog 56 #[.int .i64 s, .int .i64 n] w (NewI w (shuf s n)) := by
  cases h1 : inR n 0 40
  · have HN : Hid (shuf s n = []) := by unfold shuf; rw [h1]; exact Lib.hid rfl
    go_enter Try.func56, Try.ntmps56
    go_wp2_with (go_at_call 120; refine (specInRange_ok _ _ _ _).mono ?_; rintro e w' ⟨rfl, rfl⟩)
    go_ret
    rw [HN.out]
    exact ⟨_, _, rfl, OwnI.new w w.heap.size [] (Nat.le_refl _) (by simp), (Ext.refl w).alloc _⟩
  · obtain ⟨n0, n1⟩ := inR_true.1 h1
    obtain ⟨n, rfl⟩ := Int.eq_ofNat_of_zero_le n0
    have HN : Hid (shuf s (n : Int) = (chTo s n n).2) := by unfold shuf chosen; rw [h1, Int.toNat_natCast]; exact Lib.hid rfl
    have C1 := Lib.hid (choose_ok s n n w (by omega) (Nat.le_refl _))
    go_enter Try.func56, Try.ntmps56
    go_wp2_with (first
      | (go_at_call 120; refine (specInRange_ok _ _ _ _).mono ?_; rintro e w' ⟨rfl, rfl⟩)
      | (go_at_call 121; (with_reducible refine C1.out.mono ?_); rintro e w2 ⟨a2, c2, rfl, o2, e2⟩))
    go_ret
    rw [HN.out]
    exact ⟨a2, c2, rfl, o2, e2⟩

set_option maxHeartbeats 4000000 in
set_option maxRecDepth 100000 in
theorem lawShuffle (n0 : Int) (n1 : Int) (w : World) :
    Calls Try.prog 10 #[.int .i64 n0, .int .i64 n1] w (Gives w (.bool true)) := by
  have hres : (shuf n0 n1).length ≤ 1048576 := shuf_len n0 n1
  go_enter Try.func10, Try.ntmps10
  go_wp2_with fail
  refine (specShuffle_ok _ _ _).mono ?_
  rintro e w1 ⟨u0a, u0c, rfl, u0o, e1⟩
  have E := (Ext.refl w).trans e1
  have z0 := e1.size_le
  replace u0o := OI.of u0o
  go_wp2_with fail
  refine (implShuffle_ok _ _ _).mono ?_
  rintro e w2 ⟨u1a, u1c, rfl, u1o, e2⟩
  have z2 := e2.size_le
  replace u0o := u0o.ext e2
  replace E := E.trans e2
  clear e2
  replace u1o := OI.of u1o
  go_wp2_with fail
  refine (eqIntS_ok _ _ _ _ _ _ _ (u1o.vals) (u0o.vals) (by omega)).mono ?_
  rintro e w3 ⟨rfl, e3⟩
  replace e3 := Dr.ext e3
  have z3 := e3.size_le
  replace u0o := u0o.ext e3
  replace u1o := u1o.ext e3
  replace E := E.trans e3
  clear e3
  go_wp2_with fail
  refine (markIntS_ok _ _ _ _ _ _ _ u1o (by omega) (by omega) (by omega)).mono ?_
  rintro e w4 ⟨rfl, u1o', s4⟩
  have z4 := s4.size
  replace u0o := u0o.span s4 (by omega)
  replace E := Span.ext E s4 (by omega)
  clear s4 u1o
  have u1o := u1o'
  clear u1o'
  go_wp2_with fail
  refine (heldIntS_ok _ _ _ _ _ (u1o.vals) (by omega) (by omega) (by omega)).mono ?_
  rintro e w5 ⟨rfl, rfl⟩
  go_wp2_with fail
  refine (implShuffle_ok _ _ _).mono ?_
  rintro e w5 ⟨u2a, u2c, rfl, u2o, e5⟩
  have z5 := e5.size_le
  replace u0o := u0o.ext e5
  replace u1o := u1o.ext e5
  replace E := E.trans e5
  clear e5
  replace u2o := OI.of u2o
  go_wp2_with fail
  refine (eqIntS_ok _ _ _ _ _ _ _ (u2o.vals) (u0o.vals) (by omega)).mono ?_
  rintro e w6 ⟨rfl, e6⟩
  replace e6 := Dr.ext e6
  have z6 := e6.size_le
  replace u0o := u0o.ext e6
  replace u1o := u1o.ext e6
  replace u2o := u2o.ext e6
  replace E := E.trans e6
  clear e6
  go_wp2_with fail
  refine (heldIntS_ok _ _ _ _ _ (u1o.vals) (by omega) (by omega) (by omega)).mono ?_
  rintro e w7 ⟨rfl, rfl⟩
  go_wp2_with fail
  go_ret
  exact ⟨rfl, E⟩

end Go.Proofs.Ytninamlcffemoaa
