/- SparseVector: contracts of the program and the reference; the law. -/
import Derived.Test.YtninamlcffemoaaChs
namespace Go.Proofs.Ytninamlcffemoaa
open Go.RowKit
set_option linter.unusedVariables false
set_option maxRecDepth 20000

theorem spv_no {s n m : Int} (h : inR n 1 40 = false ∨ inR m 1 n = false) : spv s n m = [] := by
  unfold spv
  rcases h with h | h <;> rw [h] <;> simp

set_option maxHeartbeats 4000000 in
set_option maxRecDepth 100000 in
theorem implSparseVector_ok (s n m : Int) (w : World) : Calls Try.prog 64 #[.int .i64 s, .int .i64 n, .int .i64 m] w (NewI w (spv s n m)) := by
  cases h1 : inR n 1 40
  · have HN : Hid (spv s n m = []) := spv_no (.inl h1)
    go_enter Try.func64, Try.ntmps64
    go_wp2_with (go_at_call 119; refine (implInRange_ok _ _ _ _).mono ?_; rintro e w' ⟨rfl, rfl⟩; rw [h1])
    go_ret
    rw [HN.out]
    exact ⟨none, 0, rfl, OwnI.nil _ _, Ext.refl _⟩
  cases h2 : inR m 1 n
  · have HN : Hid (spv s n m = []) := spv_no (.inr h2)
    go_enter Try.func64, Try.ntmps64
    go_wp2_with (go_at_call 119; refine (implInRange_ok _ _ _ _).mono ?_; rintro e w' ⟨rfl, rfl⟩; (first | rw [h1] | rw [h2]))
    go_ret
    rw [HN.out]
    exact ⟨none, 0, rfl, OwnI.nil _ _, Ext.refl _⟩
  obtain ⟨n0, n1⟩ := inR_true.1 h1
  obtain ⟨m0, m1⟩ := inR_true.1 h2
  obtain ⟨n, rfl⟩ := Int.eq_ofNat_of_zero_le (show 0 ≤ n by omega)
  obtain ⟨m, rfl⟩ := Int.eq_ofNat_of_zero_le (show 0 ≤ m by omega)
  obtain ⟨l, hl⟩ : ∃ l, Hid (l = sbs s n m) := ⟨_, rfl⟩
  have HN : Hid (spv s (n : Int) (m : Int) = svTo s n l l.length) := by
    unfold spv
    rw [h1, h2]
    simp only [Bool.and_self, if_true, Int.toNat_natCast]
    rw [hl.out]
    exact Lib.hid rfl
  have hok := sbs_ok (s := s) (show n ≤ 40 by omega) (show m ≤ n by omega)
  rw [← hl.out] at hok
  have hll : l.length ≤ 40 := by omega
  have HB := Lib.hid hok.2.1
  clear hok
  obtain ⟨i, hi, hz0, hz1, hz2⟩ := info_parts infoInt
  go_enter Try.func64, Try.ntmps64
  go_wp2_with (first
    | (go_at_call 119; refine (implInRange_ok _ _ _ _).mono ?_; rintro e w' ⟨rfl, rfl⟩; (first | rw [h1] | rw [h2]))
    | (at_make; refine wpList_make_full _ rfl _ _ 36 rfl w.heap.size 3 i (.int .i64 0) 1 Try.underlying36 hi hz0 hz1 _ _ _ _ n rfl rfl rfl rfl ?b1 ?b2 (Nat.le_refl _) ?_))
  case b1 => rw [hz2]; omega
  case b2 => unfold maxLen; omega
  intro w1 hown hgrow
  have o1 : OI w1 w.heap.size w1.heap.size (some ⟨w.heap.size, 0, none⟩) n (List.replicate n 0) := by
    refine OI.of ?_
    unfold OwnI
    simpa [Value.cells, toList_madeCells_one] using hown
  have e1 := (Ext.refl w).grown hgrow (by simp)
  have C1 := implRandomSubset_ok s n m w1
  rw [← hl.out] at C1
  have C2 := Lib.hid C1
  clear hown hgrow C1
  go_wp2_with fail
  (with_reducible refine C2.out.mono ?_)
  rintro e w2 ⟨a2, c2, rfl, o2, e2⟩
  have q1 := o1.ext e2
  have q2 := OI.of o2
  have E2 := e1.trans e2
  have z1 := e1.size_le
  have z2 := e2.size_le
  clear o1 e1 e2 o2 C2
  go_wp2_with fail
  go_loopw [26] (fun i wr => ∃ (k : Nat) (us : List Int), k ≤ l.length ∧ i = .int .i64 k ∧ Hid (us = svTo s n l k) ∧ OI wr w.heap.size w1.heap.size (some ⟨w.heap.size, 0, none⟩) n us ∧ OI wr w1.heap.size w2.heap.size a2 c2 l ∧ Ext w wr) (fun i _ => l.length - (intOf i).toNat)
  case atStart => exact ⟨0, _, Nat.zero_le _, rfl, rfl, q1, q2, E2⟩
  case round =>
    clear q1 q2 E2
    obtain ⟨k, us, hk, rfl, HU, ho, hol, he⟩ := hrel
    have HUL : Hid (us.length = n) := by rw [HU.out]; exact svTo_length _ _ _ _
    by_cases hlt : k < l.length
    · obtain ⟨b, o, x, rfl, hb, hx, hc⟩ := hol.vals.atI hlt
      obtain ⟨x0, x1⟩ := HB.out x (List.mem_of_getElem? hx.out)
      obtain ⟨t, rfl⟩ := Int.eq_ofNat_of_zero_le x0
      have C1 := Lib.hid (fun W => implRandomNumber_ok s (100 + (t : Int)) 1018 W)
      have hr1 := (rnum_range s (100 + (t : Int)) 1018)
      obtain ⟨y, hy⟩ : ∃ y, Hid (y = rnum s (100 + (t : Int)) 1018) := ⟨_, rfl⟩
      rw [← hy.out] at C1 hr1
      obtain ⟨y0, y1⟩ := hr1
      have HU2 : Hid (us.set t (1 + y) = svTo s n l (k + 1)) := by rw [svTo_at hx.out, Int.toNat_natCast, ← HU.out, ← hy.out]; exact Lib.hid rfl
      have i1 : (t : Int) < (n : Int) := by omega
      have htl : t < us.length := by rw [HUL.out]; omega
      go_wp2_with fail
      (with_reducible refine (C1.out _).mono ?_)
      rintro e w3 ⟨rfl, e3⟩
      have p1 := ho.ext e3
      have p2 := hol.ext e3
      have E3 := he.trans e3
      obtain ⟨s1, s2, s3, u, s4⟩ := p1.store t (1 + y) htl
      have p3 := p2.span s2 (.inr (Nat.le_refl _))
      have E4 := Span.ext E3 s2 (Nat.le_refl _)
      clear ho hol he e3 p1 p2 E3 s2 hc
      go_wp2_with fail
      go_roundw
      case rel => exact ⟨k + 1, us.set t (1 + y), by omega, by go_num, HU2, s1, p3, E4⟩
      case measure => simp [intOf]; omega
    · obtain rfl : k = l.length := by omega
      have HV : Hid (spv s (n : Int) (m : Int) = us) := by rw [HN.out, HU.out]; exact Lib.hid rfl
      go_wp2_with fail
      go_ret
      rw [HV.out]
      exact ⟨_, _, by rw [HUL.out]; rfl, ho.1, he⟩

set_option maxHeartbeats 4000000 in
set_option maxRecDepth 100000 in
theorem specSparseVector_ok (s n m : Int) (w : World) : Calls Try.prog 63 #[.int .i64 s, .int .i64 n, .int .i64 m] w (NewI w (spv s n m)) := by
  have o0 := OwnI.new w w.heap.size [] (Nat.le_refl _) (by simp)
  have e0 := (Ext.refl w).alloc (.cells (I []).toArray 3)
  have O0 := Lib.hid o0
  have E0 := Lib.hid e0
  clear o0 e0
  cases h1 : inR n 1 40
  · have HN : Hid (spv s n m = []) := spv_no (.inl h1)
    go_enter Try.func63, Try.ntmps63
    go_wp2_with (go_at_call 120; refine (specInRange_ok _ _ _ _).mono ?_; rintro e w' ⟨rfl, rfl⟩; rw [h1])
    go_ret
    rw [HN.out]
    exact ⟨_, _, rfl, O0.out, E0.out⟩
  cases h2 : inR m 1 n
  · have HN : Hid (spv s n m = []) := spv_no (.inr h2)
    go_enter Try.func63, Try.ntmps63
    go_wp2_with (go_at_call 120; refine (specInRange_ok _ _ _ _).mono ?_; rintro e w' ⟨rfl, rfl⟩; (first | rw [h1] | rw [h2]))
    go_ret
    rw [HN.out]
    exact ⟨_, _, rfl, O0.out, E0.out⟩
  obtain ⟨n0, n1⟩ := inR_true.1 h1
  obtain ⟨m0, m1⟩ := inR_true.1 h2
  obtain ⟨n, rfl⟩ := Int.eq_ofNat_of_zero_le (show 0 ≤ n by omega)
  obtain ⟨m, rfl⟩ := Int.eq_ofNat_of_zero_le (show 0 ≤ m by omega)
  obtain ⟨l, hl⟩ : ∃ l, Hid (l = sbs s n m) := ⟨_, rfl⟩
  have HN : Hid (spv s (n : Int) (m : Int) = svTo s n l l.length) := by
    unfold spv
    rw [h1, h2]
    simp only [Bool.and_self, if_true, Int.toNat_natCast]
    rw [hl.out]
    exact Lib.hid rfl
  have hok := sbs_ok (s := s) (show n ≤ 40 by omega) (show m ≤ n by omega)
  rw [← hl.out] at hok
  have hll : l.length ≤ 40 := by omega
  have HB := Lib.hid hok.2.1
  clear hok O0 E0
  obtain ⟨i, hi, hz0, hz1, hz2⟩ := info_parts infoInt
  go_enter Try.func63, Try.ntmps63
  go_wp2_with (first
    | (go_at_call 120; refine (specInRange_ok _ _ _ _).mono ?_; rintro e w' ⟨rfl, rfl⟩; (first | rw [h1] | rw [h2]))
    | (at_make; refine wpList_make_full _ rfl _ _ 36 rfl w.heap.size 3 i (.int .i64 0) 1 Try.underlying36 hi hz0 hz1 _ _ _ _ n rfl rfl rfl rfl ?b1 ?b2 (Nat.le_refl _) ?_))
  case b1 => rw [hz2]; omega
  case b2 => unfold maxLen; omega
  intro w1 hown hgrow
  have o1 : OI w1 w.heap.size w1.heap.size (some ⟨w.heap.size, 0, none⟩) n (List.replicate n 0) := by
    refine OI.of ?_
    unfold OwnI
    simpa [Value.cells, toList_madeCells_one] using hown
  have e1 := (Ext.refl w).grown hgrow (by simp)
  have C1 := specRandomSubset_ok s n m w1
  rw [← hl.out] at C1
  have C2 := Lib.hid C1
  clear hown hgrow C1
  go_wp2_with fail
  (with_reducible refine C2.out.mono ?_)
  rintro e w2 ⟨a2, c2, rfl, o2, e2⟩
  have q1 := o1.ext e2
  have q2 := OI.of o2
  have E2 := e1.trans e2
  have z1 := e1.size_le
  have z2 := e2.size_le
  clear o1 e1 e2 o2 C2
  go_wp2_with fail
  go_loopw [9] (fun i wr => ∃ (k : Nat) (us : List Int), k ≤ l.length ∧ i = .int .i64 k ∧ Hid (us = svTo s n l k) ∧ OI wr w.heap.size w1.heap.size (some ⟨w.heap.size, 0, none⟩) n us ∧ OI wr w1.heap.size w2.heap.size a2 c2 l ∧ Ext w wr) (fun i _ => l.length - (intOf i).toNat)
  case atStart => exact ⟨0, _, Nat.zero_le _, rfl, rfl, q1, q2, E2⟩
  case round =>
    clear q1 q2 E2
    obtain ⟨k, us, hk, rfl, HU, ho, hol, he⟩ := hrel
    have HUL : Hid (us.length = n) := by rw [HU.out]; exact svTo_length _ _ _ _
    by_cases hlt : k < l.length
    · obtain ⟨b, o, x, rfl, hb, hx, hc⟩ := hol.vals.atI hlt
      obtain ⟨x0, x1⟩ := HB.out x (List.mem_of_getElem? hx.out)
      obtain ⟨t, rfl⟩ := Int.eq_ofNat_of_zero_le x0
      have C1 := Lib.hid (fun W => specRandomNumber_ok s (100 + (t : Int)) 1018 W)
      have hr1 := (rnum_range s (100 + (t : Int)) 1018)
      obtain ⟨y, hy⟩ : ∃ y, Hid (y = rnum s (100 + (t : Int)) 1018) := ⟨_, rfl⟩
      rw [← hy.out] at C1 hr1
      obtain ⟨y0, y1⟩ := hr1
      have HU2 : Hid (us.set t (1 + y) = svTo s n l (k + 1)) := by rw [svTo_at hx.out, Int.toNat_natCast, ← HU.out, ← hy.out]; exact Lib.hid rfl
      have i1 : (t : Int) < (n : Int) := by omega
      have i2 : (k : Int) < (l.length : Int) := by omega
      have hw1 : IntKind.i64.wrap (100 + (t : Int)) = 100 + (t : Int) := by rw [IntKind.wrap_i64]; omega
      have hw2 : IntKind.i64.wrap (1 + y) = 1 + y := by rw [IntKind.wrap_i64]; omega
      have htl : t < us.length := by rw [HUL.out]; omega
      have D0 : Ext wr wr.drew := (Ext.refl wr).drew
      have HHO := Lib.hid ho
      have HOL := Lib.hid hol
      have hc0 := Lib.hid hc
      have hcd := D0.cell hc
      have F0 : Hid (∀ W : World, Ext wr W → (∃ u, W.cell? ⟨w.heap.size, t, none⟩ = some u) ∧ W.frozen? ⟨w.heap.size, t, none⟩ = false) := fun W hW => by
        obtain ⟨_, _, s3, u, s4⟩ := (HHO.out.ext hW).store t (1 + y) htl
        exact ⟨⟨u, s4⟩, s3⟩
      clear ho hol
      go_wp2_with fail
      go_region_with (first
        | (go_at_call 124; (with_reducible refine (C1.out _).mono ?_); rintro e w3 ⟨rfl, e3⟩; have E3 := D0.trans e3; have hc3 := E3.cell hc0.out; obtain ⟨⟨u, s4⟩, s3⟩ := F0.out w3 E3))
      all_goals
        have p1 := HHO.out.ext E3
        have p2 := HOL.out.ext E3
        have E4 := he.trans E3
        obtain ⟨q1, q2, q3, q4, q5⟩ := p1.store t (1 + y) htl
        have p3 := p2.span q2 (.inr (Nat.le_refl _))
        have E5 := Span.ext E4 q2 (Nat.le_refl _)
        clear p1 p2 E4 q2 HHO HOL he F0 hc0 hcd hc
        go_wp2_with fail
        go_roundw
        case rel => exact ⟨k + 1, us.set t (1 + y), by omega, by go_num, HU2, q1, p3, E5⟩
        case measure => simp [intOf]; omega
    · obtain rfl : k = l.length := by omega
      have HV : Hid (spv s (n : Int) (m : Int) = us) := by rw [HN.out, HU.out]; exact Lib.hid rfl
      go_wp2_with fail
      go_ret
      rw [HV.out]
      exact ⟨_, _, by rw [HUL.out]; rfl, ho.1, he⟩

set_option maxHeartbeats 4000000 in
set_option maxRecDepth 100000 in
theorem lawSparseVector (n0 : Int) (n1 : Int) (n2 : Int) (w : World) :
    Calls Try.prog 12 #[.int .i64 n0, .int .i64 n1, .int .i64 n2] w (Gives w (.bool true)) := by
  have hres : (spv n0 n1 n2).length ≤ 1048576 := spv_len n0 n1 n2
  go_enter Try.func12, Try.ntmps12
  go_wp2_with fail
  refine (specSparseVector_ok _ _ _ _).mono ?_
  rintro e w1 ⟨u0a, u0c, rfl, u0o, e1⟩
  have E := (Ext.refl w).trans e1
  have z0 := e1.size_le
  replace u0o := OI.of u0o
  go_wp2_with fail
  refine (implSparseVector_ok _ _ _ _).mono ?_
  rintro e w2 ⟨u1a, u1c, rfl, u1o, e2⟩
  have z2 := e2.size_le
  replace u0o := u0o.ext e2
  replace E := E.trans e2
  clear e2
  replace u1o := OI.of u1o
  go_wp2_with fail
  refine (eqIntS_ok _ _ _ _ _ _ _ (u1o.vals) (u0o.vals) (by omega)).mono ?_
  rintro e w3 ⟨rfl, e3⟩
  replace e3 := Dr.ext e3
  have z3 := e3.size_le
  replace u0o := u0o.ext e3
  replace u1o := u1o.ext e3
  replace E := E.trans e3
  clear e3
  go_wp2_with fail
  refine (markIntS_ok _ _ _ _ _ _ _ u1o (by omega) (by omega) (by omega)).mono ?_
  rintro e w4 ⟨rfl, u1o', s4⟩
  have z4 := s4.size
  replace u0o := u0o.span s4 (by omega)
  replace E := Span.ext E s4 (by omega)
  clear s4 u1o
  have u1o := u1o'
  clear u1o'
  go_wp2_with fail
  refine (heldIntS_ok _ _ _ _ _ (u1o.vals) (by omega) (by omega) (by omega)).mono ?_
  rintro e w5 ⟨rfl, rfl⟩
  go_wp2_with fail
  refine (implSparseVector_ok _ _ _ _).mono ?_
  rintro e w5 ⟨u2a, u2c, rfl, u2o, e5⟩
  have z5 := e5.size_le
  replace u0o := u0o.ext e5
  replace u1o := u1o.ext e5
  replace E := E.trans e5
  clear e5
  replace u2o := OI.of u2o
  go_wp2_with fail
  refine (eqIntS_ok _ _ _ _ _ _ _ (u2o.vals) (u0o.vals) (by omega)).mono ?_
  rintro e w6 ⟨rfl, e6⟩
  replace e6 := Dr.ext e6
  have z6 := e6.size_le
  replace u0o := u0o.ext e6
  replace u1o := u1o.ext e6
  replace u2o := u2o.ext e6
  replace E := E.trans e6
  clear e6
  go_wp2_with fail
  refine (heldIntS_ok _ _ _ _ _ (u1o.vals) (by omega) (by omega) (by omega)).mono ?_
  rintro e w7 ⟨rfl, rfl⟩
  go_wp2_with fail
  go_ret
  exact ⟨rfl, E⟩

end Go.Proofs.Ytninamlcffemoaa
