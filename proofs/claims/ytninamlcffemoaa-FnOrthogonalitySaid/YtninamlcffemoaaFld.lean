/- Contracts of SubField, MulField, powers, InverseField, ScaleVector, copies of rows. -/
import Derived.Test.YtninamlcffemoaaComb
import Derived.Test.YtninamlcffemoaaEnc
import Derived.Test.YtninamlcffemoaaRowSet
import Derived.Test.YtninamlcffemoaaDetp
namespace Go.Proofs.Ytninamlcffemoaa
open Go.RowKit
set_option linter.unusedVariables false
set_option maxRecDepth 20000

theorem specBoth_ok (a b : Int) (w : World) (ha : inR a 0 1018 = true) (hb : inR b 0 1018 = true) :
    Calls Try.prog 96 #[.int .i64 a, .int .i64 b] w fun e w' => e = .returned (.bool true) ∧ w = w' := by
  go_enter Try.func96, Try.ntmps96
  go_wp2_with (go_at_call 126; refine (specIsElement_ok _ _).mono ?_; rintro e w' ⟨rfl, rfl⟩)
  go_ret
  exact ⟨rfl, rfl⟩

theorem implSubField_ok (a b : Int) (w : World) (ha : inR a 0 1018 = true) (hb : inR b 0 1018 = true) :
    Calls Try.prog 85 #[.int .i64 a, .int .i64 b] w fun e w' => e = .returned (.int .i64 ((a - b) % 1019)) ∧ w = w' := by
  obtain ⟨a1, a2⟩ := inR_true.1 ha
  obtain ⟨b1, b2⟩ := inR_true.1 hb
  go_enter Try.func85, Try.ntmps85
  go_wp2_with (go_at_call 130; refine (implIsElement_ok _ _).mono ?_; rintro e w' ⟨rfl, rfl⟩)
  go_ret
  exact ⟨ret_int (by omega), rfl⟩

theorem specSubField_ok (a b : Int) (w : World) (ha : inR a 0 1018 = true) (hb : inR b 0 1018 = true) :
    Calls Try.prog 78 #[.int .i64 a, .int .i64 b] w fun e w' => e = .returned (.int .i64 ((a - b) % 1019)) ∧ w = w' := by
  obtain ⟨a1, a2⟩ := inR_true.1 ha
  obtain ⟨b1, b2⟩ := inR_true.1 hb
  go_enter Try.func78, Try.ntmps78
  go_wp2_with (go_at_call 96; refine (specBoth_ok _ _ _ ha hb).mono ?_; rintro e w' ⟨rfl, rfl⟩)
  go_ret
  exact ⟨ret_int (by omega), rfl⟩

theorem implMulField_ok (a b : Int) (w : World) (ha : inR a 0 1018 = true) (hb : inR b 0 1018 = true) :
    Calls Try.prog 86 #[.int .i64 a, .int .i64 b] w fun e w' => e = .returned (.int .i64 (a * b % 1019)) ∧ w = w' := by
  obtain ⟨a1, a2⟩ := inR_true.1 ha
  obtain ⟨b1, b2⟩ := inR_true.1 hb
  obtain ⟨m1, m2⟩ := mul_el a1 a2 b1 b2
  go_enter Try.func86, Try.ntmps86
  go_wp2_with (go_at_call 130; refine (implIsElement_ok _ _).mono ?_; rintro e w' ⟨rfl, rfl⟩)
  go_ret
  exact ⟨rfl, rfl⟩

theorem specMulField_ok (a b : Int) (w : World) (ha : inR a 0 1018 = true) (hb : inR b 0 1018 = true) :
    Calls Try.prog 31 #[.int .i64 a, .int .i64 b] w fun e w' => e = .returned (.int .i64 (a * b % 1019)) ∧ w = w' := by
  obtain ⟨a1, a2⟩ := inR_true.1 ha
  obtain ⟨b1, b2⟩ := inR_true.1 hb
  obtain ⟨m1, m2⟩ := mul_el a1 a2 b1 b2
  go_enter Try.func31, Try.ntmps31
  go_wp2_with (go_at_call 96; refine (specBoth_ok _ _ _ ha hb).mono ?_; rintro e w' ⟨rfl, rfl⟩)
  go_ret
  exact ⟨rfl, rfl⟩

theorem and1 {m : Int} (h : 0 ≤ m) (h' : m ≤ 1000000000000) : bits BinOp.and IntKind.i64 m 1 = m % 2 := by
  obtain ⟨a, rfl⟩ := Int.eq_ofNat_of_zero_le h
  have ha : a < 9223372036854775808 := by omega
  show IntKind.i64.wrap ((BitVec.ofInt 64 (a : Int) &&& BitVec.ofInt 64 1).toNat : Int) = _
  rw [BitVec.toNat_and, BitVec.ofInt_natCast, BitVec.toNat_ofNat, Nat.mod_eq_of_lt (by omega), show (BitVec.ofInt 64 1).toNat = 2 ^ 1 - 1 from rfl, Nat.and_two_pow_sub_one_eq_mod, IntKind.wrap_i64]
  omega

/-- Where the loop of a power stands. -/
def PowInv (a0 : Int) (n0 : Nat) (a n out : Value) : Prop :=
  ∃ (f m : Nat) (x y : Int), a = .int .i64 x ∧ n = .int .i64 (m : Nat) ∧ out = .int .i64 y ∧ 0 ≤ x ∧ x ≤ 1018 ∧ 0 ≤ y ∧ y ≤ 1018 ∧ m ≤ 1000000000000 ∧ m < 2 ^ f ∧ powF f y x m 1019 = powF 41 1 a0 n0 1019

theorem mod_el (x : Int) : 0 ≤ x % 1019 ∧ x % 1019 ≤ 1018 := by omega

set_option maxHeartbeats 400000 in
theorem implPow_ok (a : Int) (n : Nat) (w : World) (ha : 0 ≤ a) (ha' : a ≤ 1018) (hn : n ≤ 1000000000000) :
    Calls Try.prog 155 #[.int .i64 a, .int .i64 n, .int .i64 1019] w fun e w' => e = .returned (.int .i64 (powF 41 1 a n 1019)) ∧ w = w' := by
  go_enter Try.func155, Try.ntmps155
  go_wp2
  go_loop [0, 1, 7] (fun x m out => PowInv a n x m out) (fun _ m _ => (intOf m).toNat)
  case atStart => exact ⟨41, n, a, 1, rfl, rfl, rfl, ha, ha', by omega, by omega, hn, by omega, rfl⟩
  case round =>
    obtain ⟨f, m, x, y, rfl, rfl, rfl, x1, x2, y1, y2, hm, hf, hp⟩ := hrel
    by_cases h0 : m = 0
    · subst h0
      have HP : Hid (powF 41 1 a n 1019 = y) := by
        rw [← hp]
        cases f with
        | zero => exact Lib.hid rfl
        | succ f => simp [powF, Hid]
      clear hp
      go_wp2
      go_ret
      exact ⟨ret_int HP.out.symm, rfl⟩
    · cases f with
      | zero => simp at hf; omega
      | succ f =>
        have hpos : (0 : Int) < (m : Int) := by omega
        obtain ⟨m1, m2⟩ := mul_el x1 x2 x1 x2
        obtain ⟨m3, m4⟩ := mul_el y1 y2 x1 x2
        have b1 := and1 (m := (m : Int)) (by omega) (by omega)
        obtain ⟨q1, q2⟩ := mod_el (x * x)
        obtain ⟨q3, q4⟩ := mod_el (y * x)
        have hf' : m / 2 < 2 ^ f := by rw [Nat.pow_succ] at hf; omega
        have HP := Lib.hid hp
        clear hp hf
        by_cases hodd : m % 2 = 1
        · have hE : Hid (powF f (y * x % 1019) (x * x % 1019) (m / 2) 1019 = powF 41 1 a n 1019) := by
            rw [← HP.out]; simp only [powF]; rw [if_neg h0, if_pos hodd]; exact Lib.hid rfl
          have hb : ((m : Int) % 2 == 1) = true := by simp; omega
          clear HP hodd
          go_wp2
          go_round
          case rel => exact ⟨f, m / 2, _, _, rfl, by go_num, rfl, q1, q2, q3, q4, by omega, hf', hE.out⟩
          case measure => simp [intOf]; omega
        · have hE : Hid (powF f y (x * x % 1019) (m / 2) 1019 = powF 41 1 a n 1019) := by
            rw [← HP.out]; simp only [powF]; rw [if_neg h0, if_neg hodd]; exact Lib.hid rfl
          have hb : ((m : Int) % 2 == 1) = false := by simp; omega
          clear HP hodd
          go_wp2
          go_round
          case rel => exact ⟨f, m / 2, _, _, rfl, by go_num, rfl, q1, q2, y1, y2, by omega, hf', hE.out⟩
          case measure => simp [intOf]; omega

set_option maxHeartbeats 400000 in
theorem specPow_ok (a : Int) (n : Nat) (w : World) (ha : 0 ≤ a) (ha' : a ≤ 1018) (hn : n ≤ 1000000000000) :
    Calls Try.prog 128 #[.int .i64 a, .int .i64 n, .int .i64 1019] w fun e w' => e = .returned (.int .i64 (powF 41 1 a n 1019)) ∧ w = w' := by
  go_enter Try.func128, Try.ntmps128
  go_wp2
  go_loop [0, 1, 7] (fun x m out => PowInv a n x m out) (fun _ m _ => (intOf m).toNat)
  case atStart => exact ⟨41, n, a, 1, rfl, rfl, rfl, ha, ha', by omega, by omega, hn, by omega, rfl⟩
  case round =>
    obtain ⟨f, m, x, y, rfl, rfl, rfl, x1, x2, y1, y2, hm, hf, hp⟩ := hrel
    by_cases h0 : m = 0
    · subst h0
      have HP : Hid (powF 41 1 a n 1019 = y) := by
        rw [← hp]
        cases f with
        | zero => exact Lib.hid rfl
        | succ f => simp [powF, Hid]
      clear hp
      go_wp2
      go_ret
      exact ⟨ret_int HP.out.symm, rfl⟩
    · cases f with
      | zero => simp at hf; omega
      | succ f =>
        have hpos : (0 : Int) < (m : Int) := by omega
        obtain ⟨m1, m2⟩ := mul_el x1 x2 x1 x2
        obtain ⟨m3, m4⟩ := mul_el y1 y2 x1 x2
        have b1 := and1 (m := (m : Int)) (by omega) (by omega)
        obtain ⟨q1, q2⟩ := mod_el (x * x)
        obtain ⟨q3, q4⟩ := mod_el (y * x)
        have hf' : m / 2 < 2 ^ f := by rw [Nat.pow_succ] at hf; omega
        have HP := Lib.hid hp
        clear hp hf
        by_cases hodd : m % 2 = 1
        · have hE : Hid (powF f (y * x % 1019) (x * x % 1019) (m / 2) 1019 = powF 41 1 a n 1019) := by
            rw [← HP.out]; simp only [powF]; rw [if_neg h0, if_pos hodd]; exact Lib.hid rfl
          have hb : ((m : Int) % 2 == 1) = true := by simp; omega
          clear HP hodd
          go_wp2
          go_round
          case rel => exact ⟨f, m / 2, _, _, rfl, by go_num, rfl, q1, q2, q3, q4, by omega, hf', hE.out⟩
          case measure => simp [intOf]; omega
        · have hE : Hid (powF f y (x * x % 1019) (m / 2) 1019 = powF 41 1 a n 1019) := by
            rw [← HP.out]; simp only [powF]; rw [if_neg h0, if_neg hodd]; exact Lib.hid rfl
          have hb : ((m : Int) % 2 == 1) = false := by simp; omega
          clear HP hodd
          go_wp2
          go_round
          case rel => exact ⟨f, m / 2, _, _, rfl, by go_num, rfl, q1, q2, y1, y2, by omega, hf', hE.out⟩
          case measure => simp [intOf]; omega

theorem implPowField_ok (a : Int) (w : World) (ha : inR a 0 1018 = true) :
    Calls Try.prog 131 #[.int .i64 a, .int .i64 1017] w fun e w' => e = .returned (.int .i64 (invI a)) ∧ w = w' := by
  obtain ⟨a1, a2⟩ := inR_true.1 ha
  have hr : inR 1017 0 1000000000000 = true := rfl
  go_enter Try.func131, Try.ntmps131
  go_wp2_with (first | (go_at_call 130; refine (implIsElement_ok _ _).mono ?_; rintro e w' ⟨rfl, rfl⟩) | (go_at_call 119; refine (implInRange_ok _ _ _ _).mono ?_; rintro e w' ⟨rfl, rfl⟩) | (go_at_call 155; refine (implPow_ok a 1017 _ a1 a2 (by omega)).mono ?_; rintro e w' ⟨rfl, rfl⟩))
  go_ret
  exact ⟨rfl, rfl⟩

theorem implInverseField_ok (a : Int) (w : World) (ha : inR a 0 1018 = true) :
    Calls Try.prog 87 #[.int .i64 a] w fun e w' => e = .returned (.int .i64 (invI a)) ∧ w = w' := by
  go_enter Try.func87, Try.ntmps87
  go_wp2_with (go_at_call 131; refine (implPowField_ok _ _ ha).mono ?_; rintro e w' ⟨rfl, rfl⟩)
  go_ret
  exact ⟨rfl, rfl⟩

theorem specInverseField_ok (a : Int) (w : World) (ha : inR a 0 1018 = true) :
    Calls Try.prog 76 #[.int .i64 a] w fun e w' => e = .returned (.int .i64 (invI a)) ∧ w = w' := by
  obtain ⟨a1, a2⟩ := inR_true.1 ha
  by_cases h0 : a = 0
  · subst h0
    go_enter Try.func76, Try.ntmps76
    go_wp2_with (go_at_call 126; refine (specIsElement_ok _ _).mono ?_; rintro e w' ⟨rfl, rfl⟩)
    go_ret
    exact ⟨ret_int invI_zero.symm, rfl⟩
  · have h1 : (a == 0) = false := by simpa using h0
    go_enter Try.func76, Try.ntmps76
    go_wp2_with (first | (go_at_call 126; refine (specIsElement_ok _ _).mono ?_; rintro e w' ⟨rfl, rfl⟩) | (go_at_call 128; refine (specPow_ok a 1017 _ a1 a2 (by omega)).mono ?_; rintro e w' ⟨rfl, rfl⟩))
    go_ret
    exact ⟨rfl, rfl⟩

theorem scl_take {xs : List Int} {k : Int} {j : Nat} {x : Int} (hx : xs[j]? = some x) : (scl xs k).take (j + 1) = (scl xs k).take j ++ [k * x % 1019] := by
  rw [List.take_add_one]
  congr 1
  simp [scl, hx]
theorem scl_addS (xs : List Int) (k : Int) : addS (List.replicate xs.length 0) xs k = scl xs k := by
  apply List.ext_getElem?
  intro j
  by_cases hj : j < xs.length
  · simp [addS, scl, hj, fma]
  · rw [List.getElem?_eq_none (by rw [addS_length]; simp; omega), List.getElem?_eq_none (by rw [scl_length]; omega)]

set_option maxHeartbeats 1000000 in
theorem implScaleVector_ok (a : Option Addr) (c : Nat) (xs : List Int) (k : Int) (w : World) (h : Vals w a (I xs)) (hx : validV xs = true) (hk : inR k 0 1018 = true) :
    Calls Try.prog 135 #[.slice a xs.length c, .int .i64 k] w (NewI w (scl xs k)) := by
  obtain ⟨hx1, hx2⟩ := validV_true.1 hx
  have HX := Lib.hid hx1
  clear hx1
  obtain ⟨i, hi, hz0, hz1, hz2⟩ := info_parts infoInt
  go_enter Try.func135, Try.ntmps135
  go_wp2_with (first | (go_at_call 100; refine (implIsValidVector_ok _ _ _ _ h (by omega)).mono ?_; rintro e w' ⟨rfl, rfl⟩) | (go_at_call 130; refine (implIsElement_ok _ _).mono ?_; rintro e w' ⟨rfl, rfl⟩) | (at_make; refine wpList_make_full _ rfl _ _ 36 rfl w.heap.size 3 i (.int .i64 0) 1 Try.underlying36 hi hz0 hz1 _ _ _ _ xs.length rfl rfl rfl rfl ?b1 ?b2 (Nat.le_refl _) ?_))
  case b1 => rw [hz2]; omega
  case b2 => unfold maxLen; omega
  intro w1 hown hgrow
  have q0 : OI w1 w.heap.size w1.heap.size (some ⟨w.heap.size, 0, none⟩) xs.length (List.replicate xs.length 0) := by
    refine OI.of ?_
    unfold OwnI
    simpa [Value.cells, toList_madeCells_one] using hown
  have e0 := (Ext.refl w).grown hgrow (by simp)
  clear hown hgrow
  have CC : Hid (Calls Try.prog 88 #[.slice (some ⟨w.heap.size, 0, none⟩) xs.length xs.length, .slice a xs.length c, .int .i64 k] w1 fun e w' => e = .returned (.slice (some ⟨w.heap.size, 0, none⟩) xs.length xs.length) ∧ OI w' w.heap.size w1.heap.size (some ⟨w.heap.size, 0, none⟩) xs.length (scl xs k) ∧ Span w.heap.size w1.heap.size w1 w') := by
    have := addScaled_ok w.heap.size w1.heap.size (some ⟨w.heap.size, 0, none⟩) a xs.length c (List.replicate xs.length 0) xs k w1 q0 (fun w' hs => h.ext (Span.ext e0 hs (Nat.le_refl _))) (by simp) hx2 (fun x hx => by rw [List.eq_of_mem_replicate hx]; rfl) HX.out hk
    rw [scl_addS, List.length_replicate] at this
    exact this
  clear q0
  go_wp2_with fail
  refine CC.out.mono ?_
  rintro e w2 ⟨rfl, o2, s2⟩
  have e2 := Span.ext e0 s2 (Nat.le_refl _)
  clear CC s2
  go_wp2_with fail
  go_ret
  exact ⟨some ⟨w.heap.size, 0, none⟩, xs.length, by rw [scl_length]; rfl, o2.1, e2⟩

set_option maxHeartbeats 1000000 in
theorem specScaleVector_ok (a : Option Addr) (c : Nat) (xs : List Int) (k : Int) (w : World) (h : Vals w a (I xs)) (hx : validV xs = true) (hk : inR k 0 1018 = true) :
    Calls Try.prog 132 #[.slice a xs.length c, .int .i64 k] w (NewI w (scl xs k)) := by
  obtain ⟨hx1, hxm⟩ := validV_true.1 hx
  obtain ⟨k1, k2⟩ := inR_true.1 hk
  have HX := Lib.hid hx1
  have o0 := OwnI.new w w.heap.size [] (Nat.le_refl _) (by simp)
  have e0 := (Ext.refl w).alloc (.cells (I []).toArray 3)
  clear hx1
  go_enter Try.func132, Try.ntmps132
  go_wp2_with (first | (go_at_call 69; refine (specIsValidVector_ok _ _ _ _ (h.ext e0) (by omega)).mono ?_; rintro e w' ⟨rfl, rfl⟩) | (go_at_call 126; refine (specIsElement_ok _ _).mono ?_; rintro e w' ⟨rfl, rfl⟩))
  go_loopw [5, 6] (fun v i wr => ∃ (j : Nat) (a1 : Option Addr) (c1 : Nat) (us : List Int), j ≤ xs.length ∧ i = .int .i64 j ∧ v = .slice a1 us.length c1 ∧ Hid (us = (scl xs k).take j) ∧ OwnI wr w.heap.size a1 c1 us ∧ Ext w wr) (fun _ i _ => xs.length - (intOf i).toNat)
  case atStart => exact ⟨0, _, _, [], Nat.zero_le _, rfl, rfl, rfl, o0, e0⟩
  case round =>
    clear o0 e0
    obtain ⟨j, a1, c1, us, hj, rfl, rfl, HU, ho, he⟩ := hrel
    have hul : us.length ≤ 40 := by rw [HU.out, List.length_take, scl_length]; omega
    by_cases hlt : j < xs.length
    · obtain ⟨b1, o1, x, rfl, hb, hxj, hc⟩ := (h.ext he).atI hlt
      obtain ⟨x1, x2⟩ := HX.out.get hxj.out
      obtain ⟨m1, m2⟩ := mul_el x1 x2 k1 k2
      obtain ⟨z, hz⟩ : ∃ z, Hid (z = k * x % 1019) := ⟨_, rfl⟩
      have hz2 : x * k % 1019 = z := by rw [hz.out, Int.mul_comm]
      obtain ⟨vs, hvs⟩ : ∃ vs, Hid (vs = us ++ [z]) := ⟨_, rfl⟩
      have HT : Hid (vs = (scl xs k).take (j + 1)) := by rw [scl_take hxj.out, ← HU.out, ← hz.out]; exact hvs
      go_wp2_with (at_builtin; refine wpList_appI _ rfl _ _ rfl w.heap.size _ _ us rfl (ho.ext ((Ext.refl wr).alloc _)) _ _ [z] rfl (Vals.new wr [.int .i64 z] _) vs hvs.out (by simp; omega) (by have := he.size_le; simp; omega) ?_)
      intro a4 c4 w4 o4 g4 _
      have e4 := (he.alloc (.cells (I [z]).toArray 3)).grown g4 (fun k hk => (ho.block k hk).1)
      clear g4 ho he
      go_wp2_with fail
      go_roundw
      case rel => exact ⟨j + 1, a4, c4, vs, by omega, by go_num, rfl, HT, o4, e4⟩
      case measure => simp [intOf]; omega
    · have E : Hid (us = scl xs k) := by have := HU.out; rwa [List.take_of_length_le (by rw [scl_length]; omega)] at this
      go_wp2_with fail
      go_ret
      rw [← E.out]
      exact ⟨a1, c1, rfl, ho, he⟩

theorem take_snocM {xss : List (List Int)} {k : Nat} {xs : List Int} (h : xss[k]? = some xs) : xss.take (k + 1) = xss.take k ++ [xs] := by rw [List.take_add_one, h]; rfl

set_option maxHeartbeats 1000000 in
theorem specCopy_ok (a : Option Addr) (c : Nat) (xss : List (List Int)) (w : World) (h : MatR w a xss) (hl : xss.length ≤ 1048576) (hr : ∀ xs ∈ xss, xs.length ≤ 1048576) :
    Calls Try.prog 75 #[.slice a xss.length c] w (NewM w xss) := by
  have HR := Lib.hid hr
  clear hr
  have o0 := OM.new0 w
  have e0 := (Ext.refl w).alloc (.cells #[] 36)
  go_enter Try.func75, Try.ntmps75
  go_wp2
  go_loopw [3, 4] (fun v i wr => ∃ (j : Nat) (a1 : Option Addr) (c1 : Nat) (yss : List (List Int)), j ≤ xss.length ∧ i = .int .i64 j ∧ v = .slice a1 yss.length c1 ∧ Hid (yss = xss.take j) ∧ OM wr w.heap.size wr.heap.size a1 c1 yss ∧ Ext w wr) (fun _ i _ => xss.length - (intOf i).toNat)
  case atStart => exact ⟨0, _, _, [], Nat.zero_le _, rfl, rfl, rfl, o0, e0⟩
  case round =>
    clear o0 e0
    obtain ⟨j, a1, c1, yss, hj, rfl, rfl, HY, ho, he⟩ := hrel
    have hyl : yss.length ≤ 1048576 := by rw [HY.out, List.length_take]; omega
    by_cases hlt : j < xss.length
    · obtain ⟨b, o, ra, rc, xs, rfl, hb, hx, hc, hv⟩ := (h.ext he).at_ hlt
      have hxm := HR.out xs (List.mem_of_getElem? hx.out)
      have hsz := he.size_le
      go_wp2_with (at_builtin; refine wpList_appI _ rfl _ _ rfl wr.heap.size _ _ [] rfl (OwnI.new wr _ [] (Nat.le_refl _) (by simp)) _ _ xs rfl (hv.ext ((Ext.refl wr).alloc _)) xs rfl (by simp; omega) (by simp) ?_)
      intro a2 c2 w2 o2 g2 _
      have e2 := ((Ext.refl wr).alloc (.cells (I []).toArray 3)).grown g2 (by simp [blockOf])
      clear g2
      obtain ⟨zss, hzs⟩ : ∃ zss, Hid (zss = yss ++ [xs]) := ⟨_, rfl⟩
      have HT : Hid (zss = xss.take (j + 1)) := by rw [take_snocM hx.out, ← HY.out]; exact hzs
      have O5 := (ho.ext e2).ext ((Ext.refl w2).alloc (.cells #[.slice a2 xs.length c2] 36))
      have R5 := ((OI.of o2).ext ((Ext.refl w2).alloc (.cells #[.slice a2 xs.length c2] 36))).mono (C := wr.heap.size) (C2 := (w2.alloc (.cells #[.slice a2 xs.length c2] 36)).heap.size) (Nat.le_refl _) (by simp)
      have E5 := (he.trans e2).alloc (.cells #[.slice a2 xs.length c2] 36)
      have hnew : Vals (w2.alloc (.cells #[.slice a2 xs.length c2] 36)) (some ⟨w2.heap.size, 0, none⟩) [.slice a2 xs.length c2] := Vals.new w2 [.slice a2 xs.length c2] 36
      have hob := ho.block
      have z2 := e2.size_le
      clear o2 e2 ho he
      go_wp2_with (at_builtin; refine wpList_appM _ rfl _ _ rfl w.heap.size wr.heap.size _ _ yss rfl O5 _ _ _ _ xs rfl hnew R5 hsz (by simp; omega) zss hzs.out (by omega) ?_)
      intro a5 c5 w5 o5 g5
      have e5 := E5.grown g5 (fun k hk => (hob k hk).1)
      clear g5 E5 O5 R5 hnew hob
      go_wp2_with fail
      go_roundw
      case rel => exact ⟨j + 1, a5, c5, zss, by omega, by go_num, rfl, HT, o5, e5⟩
      case measure => simp [intOf]; omega
    · have E : Hid (yss = xss) := by have := HY.out; rwa [List.take_of_length_le (by omega)] at this
      go_wp2_with fail
      go_ret
      rw [← E.out]
      exact ⟨a1, c1, rfl, ho, he⟩

set_option maxHeartbeats 1000000 in
theorem implCopy_ok (a : Option Addr) (c : Nat) (xss : List (List Int)) (w : World) (h : MatR w a xss) (hl : xss.length ≤ 1048576) (hr : ∀ xs ∈ xss, xs.length ≤ 1048576) :
    Calls Try.prog 82 #[.slice a xss.length c] w (NewM w xss) := by
  have HR := Lib.hid hr
  clear hr
  have o0 := OM.nil w w.heap.size w.heap.size
  have e0 := Ext.refl w
  go_enter Try.func82, Try.ntmps82
  go_wp2
  go_loopw [3, 8] (fun v i wr => ∃ (j : Nat) (a1 : Option Addr) (c1 : Nat) (yss : List (List Int)), j ≤ xss.length ∧ i = .int .i64 j ∧ v = .slice a1 yss.length c1 ∧ Hid (yss = xss.take j) ∧ OM wr w.heap.size wr.heap.size a1 c1 yss ∧ Ext w wr) (fun _ i _ => xss.length - (intOf i).toNat)
  case atStart => exact ⟨0, _, _, [], Nat.zero_le _, rfl, rfl, rfl, o0, e0⟩
  case round =>
    clear o0 e0
    obtain ⟨j, a1, c1, yss, hj, rfl, rfl, HY, ho, he⟩ := hrel
    have hyl : yss.length ≤ 1048576 := by rw [HY.out, List.length_take]; omega
    by_cases hlt : j < xss.length
    · obtain ⟨b, o, ra, rc, xs, rfl, hb, hx, hc, hv⟩ := (h.ext he).at_ hlt
      have hxm := HR.out xs (List.mem_of_getElem? hx.out)
      have hsz := he.size_le
      go_wp2_with fail
      refine (cloneI_ok _ _ _ _ hv hxm).mono ?_
      rintro e w2 ⟨a2, c2, rfl, o2, e2⟩
      obtain ⟨zss, hzs⟩ : ∃ zss, Hid (zss = yss ++ [xs]) := ⟨_, rfl⟩
      have HT : Hid (zss = xss.take (j + 1)) := by rw [take_snocM hx.out, ← HY.out]; exact hzs
      have O5 := (ho.ext e2).ext ((Ext.refl w2).alloc (.cells #[.slice a2 xs.length c2] 36))
      have R5 := ((OI.of o2).ext ((Ext.refl w2).alloc (.cells #[.slice a2 xs.length c2] 36))).mono (C := wr.heap.size) (C2 := (w2.alloc (.cells #[.slice a2 xs.length c2] 36)).heap.size) (Nat.le_refl _) (by simp)
      have E5 := (he.trans e2).alloc (.cells #[.slice a2 xs.length c2] 36)
      have hnew : Vals (w2.alloc (.cells #[.slice a2 xs.length c2] 36)) (some ⟨w2.heap.size, 0, none⟩) [.slice a2 xs.length c2] := Vals.new w2 [.slice a2 xs.length c2] 36
      have hob := ho.block
      have z2 := e2.size_le
      clear o2 e2 ho he
      go_wp2_with (at_builtin; refine wpList_appM _ rfl _ _ rfl w.heap.size wr.heap.size _ _ yss rfl O5 _ _ _ _ xs rfl hnew R5 hsz (by simp; omega) zss hzs.out (by omega) ?_)
      intro a5 c5 w5 o5 g5
      have e5 := E5.grown g5 (fun k hk => (hob k hk).1)
      clear g5 E5 O5 R5 hnew hob
      go_wp2_with fail
      go_roundw
      case rel => exact ⟨j + 1, a5, c5, zss, by omega, by go_num, rfl, HT, o5, e5⟩
      case measure => simp [intOf]; omega
    · have E : Hid (yss = xss) := by have := HY.out; rwa [List.take_of_length_le (by omega)] at this
      go_wp2_with fail
      go_ret
      rw [← E.out]
      exact ⟨a1, c1, rfl, ho, he⟩

end Go.Proofs.Ytninamlcffemoaa
