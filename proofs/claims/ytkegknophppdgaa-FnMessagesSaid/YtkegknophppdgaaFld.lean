/- Contracts of SubField, MulField, powers, InverseField, ScaleVector, copies of rows. -/
import Derived.Test.YtkegknophppdgaaComb
import Derived.Test.YtkegknophppdgaaEnc
import Derived.Test.YtkegknophppdgaaRowSet
import Derived.Test.YtkegknophppdgaaDetp
namespace Go.Proofs.Ytkegknophppdgaa
open Go.RowKit
set_option linter.unusedVariables false
set_option maxRecDepth 20000

theorem and1 {m : Int} (h : 0 ≤ m) (h' : m ≤ 1000000000000) : bits BinOp.and IntKind.i64 m 1 = m % 2 := by
  obtain ⟨a, rfl⟩ := Int.eq_ofNat_of_zero_le h
  have ha : a < 9223372036854775808 := by omega
  show IntKind.i64.wrap ((BitVec.ofInt 64 (a : Int) &&& BitVec.ofInt 64 1).toNat : Int) = _
  rw [BitVec.toNat_and, BitVec.ofInt_natCast, BitVec.toNat_ofNat, Nat.mod_eq_of_lt (by omega), show (BitVec.ofInt 64 1).toNat = 2 ^ 1 - 1 from rfl, Nat.and_two_pow_sub_one_eq_mod, IntKind.wrap_i64]
  omega

/-- Where the loop of a power stands. -/
def PowInv (a0 : Int) (n0 : Nat) (a n out : Value) : Prop :=
  ∃ (f m : Nat) (x y : Int), a = .int .i64 x ∧ n = .int .i64 (m : Nat) ∧ out = .int .i64 y ∧ 0 ≤ x ∧ x ≤ 1018 ∧ 0 ≤ y ∧ y ≤ 1018 ∧ m ≤ 1000000000000 ∧ m < 2 ^ f ∧ powF f y x m 1019 = powF 41 1 a0 n0 1019

theorem mod_el (x : Int) : 0 ≤ x % 1019 ∧ x % 1019 ≤ 1018 := by omega

theorem scl_take {xs : List Int} {k : Int} {j : Nat} {x : Int} (hx : xs[j]? = some x) : (scl xs k).take (j + 1) = (scl xs k).take j ++ [k * x % 1019] := by
  rw [List.take_add_one]
  congr 1
  simp [scl, hx]
theorem scl_addS (xs : List Int) (k : Int) : addS (List.replicate xs.length 0) xs k = scl xs k := by
  apply List.ext_getElem?
  intro j
  by_cases hj : j < xs.length
  · simp [addS, scl, hj, fma]
  · rw [List.getElem?_eq_none (by rw [addS_length]; simp; omega), List.getElem?_eq_none (by rw [scl_length]; omega)]

set_option maxHeartbeats 1000000 in
theorem specScaleVector_ok (a : Option Addr) (c : Nat) (xs : List Int) (k : Int) (w : World) (h : Vals w a (I xs)) (hx : validV xs = true) (hk : inR k 0 1018 = true) :
    Calls Try.prog 171 #[.slice a xs.length c, .int .i64 k] w (NewI w (scl xs k)) := by
  obtain ⟨hx1, hxm⟩ := validV_true.1 hx
  obtain ⟨k1, k2⟩ := inR_true.1 hk
  have HX := Lib.hid hx1
  have o0 := OwnI.new w w.heap.size [] (Nat.le_refl _) (by simp)
  have e0 := (Ext.refl w).alloc (.cells (I []).toArray 3)
  clear hx1
  go_enter Try.func171, Try.ntmps171
  go_wp2_with (first | (go_at_call 66; refine (specIsValidVector_ok _ _ _ _ (h.ext e0) (by omega)).mono ?_; rintro e w' ⟨rfl, rfl⟩) | (go_at_call 128; refine (specIsElement_ok _ _).mono ?_; rintro e w' ⟨rfl, rfl⟩))
  go_loopw [5, 6] (fun v i wr => ∃ (j : Nat) (a1 : Option Addr) (c1 : Nat) (us : List Int), j ≤ xs.length ∧ i = .int .i64 j ∧ v = .slice a1 us.length c1 ∧ Hid (us = (scl xs k).take j) ∧ OwnI wr w.heap.size a1 c1 us ∧ Ext w wr) (fun _ i _ => xs.length - (intOf i).toNat)
  case atStart => exact ⟨0, _, _, [], Nat.zero_le _, rfl, rfl, rfl, o0, e0⟩
  case round =>
    clear o0 e0
    obtain ⟨j, a1, c1, us, hj, rfl, rfl, HU, ho, he⟩ := hrel
    have hul : us.length ≤ 40 := by rw [HU.out, List.length_take, scl_length]; omega
    by_cases hlt : j < xs.length
    · obtain ⟨b1, o1, x, rfl, hb, hxj, hc⟩ := (h.ext he).atI hlt
      obtain ⟨x1, x2⟩ := HX.out.get hxj.out
      obtain ⟨m1, m2⟩ := mul_el x1 x2 k1 k2
      obtain ⟨z, hz⟩ : ∃ z, Hid (z = k * x % 1019) := ⟨_, rfl⟩
      have hz2 : x * k % 1019 = z := by rw [hz.out, Int.mul_comm]
      obtain ⟨vs, hvs⟩ : ∃ vs, Hid (vs = us ++ [z]) := ⟨_, rfl⟩
      have HT : Hid (vs = (scl xs k).take (j + 1)) := by rw [scl_take hxj.out, ← HU.out, ← hz.out]; exact hvs
      go_wp2_with (at_builtin; refine wpList_appI _ rfl _ _ rfl w.heap.size _ _ us rfl (ho.ext ((Ext.refl wr).alloc _)) _ _ [z] rfl (Vals.new wr [.int .i64 z] _) vs hvs.out (by simp; omega) (by have := he.size_le; simp; omega) ?_)
      intro a4 c4 w4 o4 g4 _
      have e4 := (he.alloc (.cells (I [z]).toArray 3)).grown g4 (fun k hk => (ho.block k hk).1)
      clear g4 ho he
      go_wp2_with fail
      go_roundw
      case rel => exact ⟨j + 1, a4, c4, vs, by omega, by go_num, rfl, HT, o4, e4⟩
      case measure => simp [intOf]; omega
    · have E : Hid (us = scl xs k) := by have := HU.out; rwa [List.take_of_length_le (by rw [scl_length]; omega)] at this
      go_wp2_with fail
      go_ret
      rw [← E.out]
      exact ⟨a1, c1, rfl, ho, he⟩

theorem take_snocM {xss : List (List Int)} {k : Nat} {xs : List Int} (h : xss[k]? = some xs) : xss.take (k + 1) = xss.take k ++ [xs] := by rw [List.take_add_one, h]; rfl

set_option maxHeartbeats 1000000 in
theorem specCopy_ok (a : Option Addr) (c : Nat) (xss : List (List Int)) (w : World) (h : MatR w a xss) (hl : xss.length ≤ 1048576) (hr : ∀ xs ∈ xss, xs.length ≤ 1048576) :
    Calls Try.prog 95 #[.slice a xss.length c] w (NewM w xss) := by
  have HR := Lib.hid hr
  clear hr
  have o0 := OM.new0 w
  have e0 := (Ext.refl w).alloc (.cells #[] 32)
  go_enter Try.func95, Try.ntmps95
  go_wp2
  go_loopw [3, 4] (fun v i wr => ∃ (j : Nat) (a1 : Option Addr) (c1 : Nat) (yss : List (List Int)), j ≤ xss.length ∧ i = .int .i64 j ∧ v = .slice a1 yss.length c1 ∧ Hid (yss = xss.take j) ∧ OM wr w.heap.size wr.heap.size a1 c1 yss ∧ Ext w wr) (fun _ i _ => xss.length - (intOf i).toNat)
  case atStart => exact ⟨0, _, _, [], Nat.zero_le _, rfl, rfl, rfl, o0, e0⟩
  case round =>
    clear o0 e0
    obtain ⟨j, a1, c1, yss, hj, rfl, rfl, HY, ho, he⟩ := hrel
    have hyl : yss.length ≤ 1048576 := by rw [HY.out, List.length_take]; omega
    by_cases hlt : j < xss.length
    · obtain ⟨b, o, ra, rc, xs, rfl, hb, hx, hc, hv⟩ := (h.ext he).at_ hlt
      have hxm := HR.out xs (List.mem_of_getElem? hx.out)
      have hsz := he.size_le
      go_wp2_with (at_builtin; refine wpList_appI _ rfl _ _ rfl wr.heap.size _ _ [] rfl (OwnI.new wr _ [] (Nat.le_refl _) (by simp)) _ _ xs rfl (hv.ext ((Ext.refl wr).alloc _)) xs rfl (by simp; omega) (by simp) ?_)
      intro a2 c2 w2 o2 g2 _
      have e2 := ((Ext.refl wr).alloc (.cells (I []).toArray 3)).grown g2 (by simp [blockOf])
      clear g2
      obtain ⟨zss, hzs⟩ : ∃ zss, Hid (zss = yss ++ [xs]) := ⟨_, rfl⟩
      have HT : Hid (zss = xss.take (j + 1)) := by rw [take_snocM hx.out, ← HY.out]; exact hzs
      have O5 := (ho.ext e2).ext ((Ext.refl w2).alloc (.cells #[.slice a2 xs.length c2] 32))
      have R5 := ((OI.of o2).ext ((Ext.refl w2).alloc (.cells #[.slice a2 xs.length c2] 32))).mono (C := wr.heap.size) (C2 := (w2.alloc (.cells #[.slice a2 xs.length c2] 32)).heap.size) (Nat.le_refl _) (by simp)
      have E5 := (he.trans e2).alloc (.cells #[.slice a2 xs.length c2] 32)
      have hnew : Vals (w2.alloc (.cells #[.slice a2 xs.length c2] 32)) (some ⟨w2.heap.size, 0, none⟩) [.slice a2 xs.length c2] := Vals.new w2 [.slice a2 xs.length c2] 32
      have hob := ho.block
      have z2 := e2.size_le
      clear o2 e2 ho he
      go_wp2_with (at_builtin; refine wpList_appM _ rfl _ _ rfl w.heap.size wr.heap.size _ _ yss rfl O5 _ _ _ _ xs rfl hnew R5 hsz (by simp; omega) zss hzs.out (by omega) ?_)
      intro a5 c5 w5 o5 g5
      have e5 := E5.grown g5 (fun k hk => (hob k hk).1)
      clear g5 E5 O5 R5 hnew hob
      go_wp2_with fail
      go_roundw
      case rel => exact ⟨j + 1, a5, c5, zss, by omega, by go_num, rfl, HT, o5, e5⟩
      case measure => simp [intOf]; omega
    · have E : Hid (yss = xss) := by have := HY.out; rwa [List.take_of_length_le (by omega)] at this
      go_wp2_with fail
      go_ret
      rw [← E.out]
      exact ⟨a1, c1, rfl, ho, he⟩

set_option maxHeartbeats 1000000 in
theorem implCopy_ok (a : Option Addr) (c : Nat) (xss : List (List Int)) (w : World) (h : MatR w a xss) (hl : xss.length ≤ 1048576) (hr : ∀ xs ∈ xss, xs.length ≤ 1048576) :
    Calls Try.prog 97 #[.slice a xss.length c] w (NewM w xss) := by
  have HR := Lib.hid hr
  clear hr
  have o0 := OM.nil w w.heap.size w.heap.size
  have e0 := Ext.refl w
  go_enter Try.func97, Try.ntmps97
  go_wp2
  go_loopw [3, 8] (fun v i wr => ∃ (j : Nat) (a1 : Option Addr) (c1 : Nat) (yss : List (List Int)), j ≤ xss.length ∧ i = .int .i64 j ∧ v = .slice a1 yss.length c1 ∧ Hid (yss = xss.take j) ∧ OM wr w.heap.size wr.heap.size a1 c1 yss ∧ Ext w wr) (fun _ i _ => xss.length - (intOf i).toNat)
  case atStart => exact ⟨0, _, _, [], Nat.zero_le _, rfl, rfl, rfl, o0, e0⟩
  case round =>
    clear o0 e0
    obtain ⟨j, a1, c1, yss, hj, rfl, rfl, HY, ho, he⟩ := hrel
    have hyl : yss.length ≤ 1048576 := by rw [HY.out, List.length_take]; omega
    by_cases hlt : j < xss.length
    · obtain ⟨b, o, ra, rc, xs, rfl, hb, hx, hc, hv⟩ := (h.ext he).at_ hlt
      have hxm := HR.out xs (List.mem_of_getElem? hx.out)
      have hsz := he.size_le
      go_wp2_with fail
      refine (cloneI_ok _ _ _ _ hv hxm).mono ?_
      rintro e w2 ⟨a2, c2, rfl, o2, e2⟩
      obtain ⟨zss, hzs⟩ : ∃ zss, Hid (zss = yss ++ [xs]) := ⟨_, rfl⟩
      have HT : Hid (zss = xss.take (j + 1)) := by rw [take_snocM hx.out, ← HY.out]; exact hzs
      have O5 := (ho.ext e2).ext ((Ext.refl w2).alloc (.cells #[.slice a2 xs.length c2] 32))
      have R5 := ((OI.of o2).ext ((Ext.refl w2).alloc (.cells #[.slice a2 xs.length c2] 32))).mono (C := wr.heap.size) (C2 := (w2.alloc (.cells #[.slice a2 xs.length c2] 32)).heap.size) (Nat.le_refl _) (by simp)
      have E5 := (he.trans e2).alloc (.cells #[.slice a2 xs.length c2] 32)
      have hnew : Vals (w2.alloc (.cells #[.slice a2 xs.length c2] 32)) (some ⟨w2.heap.size, 0, none⟩) [.slice a2 xs.length c2] := Vals.new w2 [.slice a2 xs.length c2] 32
      have hob := ho.block
      have z2 := e2.size_le
      clear o2 e2 ho he
      go_wp2_with (at_builtin; refine wpList_appM _ rfl _ _ rfl w.heap.size wr.heap.size _ _ yss rfl O5 _ _ _ _ xs rfl hnew R5 hsz (by simp; omega) zss hzs.out (by omega) ?_)
      intro a5 c5 w5 o5 g5
      have e5 := E5.grown g5 (fun k hk => (hob k hk).1)
      clear g5 E5 O5 R5 hnew hob
      go_wp2_with fail
      go_roundw
      case rel => exact ⟨j + 1, a5, c5, zss, by omega, by go_num, rfl, HT, o5, e5⟩
      case measure => simp [intOf]; omega
    · have E : Hid (yss = xss) := by have := HY.out; rwa [List.take_of_length_le (by omega)] at this
      go_wp2_with fail
      go_ret
      rw [← E.out]
      exact ⟨a1, c1, rfl, ho, he⟩

end Go.Proofs.Ytkegknophppdgaa
