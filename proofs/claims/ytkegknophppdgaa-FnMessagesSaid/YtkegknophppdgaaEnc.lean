/- Contracts of slices.Clone, AppendUvarint, AppendBytes, EncodeInts. -/
import Derived.Test.YtkegknophppdgaaBytes
import Derived.Lib.SliceRun
import Derived.Laws.BitsAllLaws
import Derived.Laws.BitsLemmas
namespace Go.Proofs.Ytkegknophppdgaa
open Go.RowKit
set_option linter.unusedVariables false
set_option maxRecDepth 20000

theorem Vals.of_none {w : World} {vs : List Value} (h : Vals w none vs) : vs = [] := by
  cases vs with
  | nil => rfl
  | cons v r => obtain ⟨b, o, h, _⟩ := h 0 (by simp); cases h

set_option maxHeartbeats 400000 in
theorem cloneI_ok (a : Option Addr) (c : Nat) (xs : List Int) (w : World) (h : Vals w a (I xs)) (hl : xs.length ≤ 1048576) :
    Calls Try.prog 105 #[.slice a xs.length c] w (NewI w xs) := by
  have hq := fun W n => Lib.run_eql_slice_nil (P := Try.prog) W 32 3 a n c 0 0 Try.underlying32
  cases a with
  | none =>
    have hx : xs = [] := by simpa using h.of_none
    subst hx
    go_enter Try.func105, Try.ntmps105
    go_wp2
    go_ret
    exact ⟨none, 0, rfl, OwnI.nil _ _, Ext.refl _⟩
  | some ad =>
    go_enter Try.func105, Try.ntmps105
    go_wp2_with (at_builtin; refine wpList_appI _ rfl _ _ rfl w.heap.size _ _ [] rfl (OwnI.new w _ [] (Nat.le_refl _) (by simp)) _ _ xs rfl (h.ext ((Ext.refl w).alloc _)) xs rfl (by simp; omega) (by simp) ?_)
    intro a1 c1 w1 o1 g1 _
    have e1 := ((Ext.refl w).alloc (.cells (I []).toArray 3)).grown g1 (by simp [blockOf])
    go_wp2_with fail
    go_ret
    exact ⟨a1, c1, rfl, o1, e1⟩

set_option maxHeartbeats 400000 in
theorem cloneY_ok (a : Option Addr) (c : Nat) (xs : List Int) (w : World) (h : Vals w a (Y xs)) (hl : xs.length ≤ 1048576) :
    Calls Try.prog 154 #[.slice a xs.length c] w (NewY w xs) := by
  have hq := fun W n => Lib.run_eql_slice_nil (P := Try.prog) W 22 5 a n c 0 0 Try.underlying22
  cases a with
  | none =>
    have hx : xs = [] := by simpa using h.of_none
    subst hx
    go_enter Try.func154, Try.ntmps154
    go_wp2
    go_ret
    exact ⟨none, 0, rfl, OwnB.nil _ _, Ext.refl _⟩
  | some ad =>
    go_enter Try.func154, Try.ntmps154
    go_wp2_with (at_builtin; refine wpList_appY _ rfl _ _ rfl w.heap.size _ _ [] rfl (OwnB.new w _ [] (Nat.le_refl _) (by simp)) _ _ xs rfl (h.ext ((Ext.refl w).alloc _)) xs rfl (by simp; omega) (by simp) ?_)
    intro a1 c1 w1 o1 g1 _
    have e1 := ((Ext.refl w).alloc (.cells (Y []).toArray 5)).grown g1 (by simp [blockOf])
    go_wp2_with fail
    go_ret
    exact ⟨a1, c1, rfl, o1, e1⟩

/-- The bytes of a number, seven bits each, the last below 128. -/
def uvF : Nat → Int → List Int
  | 0, n => [n]
  | f + 1, n => if 128 ≤ n then (n % 128 + 128) :: uvF f (n / 128) else [n]
def uv (n : Int) : List Int := if inR n 0 1000000000000 then uvF 6 n else []
theorem uvF_small (f : Nat) {n : Int} (h : n < 128) : uvF f n = [n] := by
  cases f with
  | zero => rfl
  | succ f => simp [uvF]; omega
theorem uvF_len (f : Nat) (n : Int) : (uvF f n).length ≤ f + 1 := by
  induction f generalizing n with
  | zero => simp [uvF]
  | succ f ih =>
    unfold uvF
    split
    · have := ih (n / 128); simp; omega
    · simp
theorem uv_len (n : Int) : (uv n).length ≤ 7 := by
  unfold uv
  split
  · exact uvF_len 6 n
  · simp

theorem and127 {m : Int} (h : 0 ≤ m) (h' : m ≤ 1000000000000) : bits BinOp.and IntKind.i64 m 127 = m % 128 := by
  obtain ⟨a, rfl⟩ := Int.eq_ofNat_of_zero_le h
  have ha : a < 9223372036854775808 := by omega
  show IntKind.i64.wrap ((BitVec.ofInt 64 (a : Int) &&& BitVec.ofInt 64 127).toNat : Int) = _
  rw [BitVec.toNat_and, BitVec.ofInt_natCast, BitVec.toNat_ofNat, Nat.mod_eq_of_lt (by omega), show (BitVec.ofInt 64 127).toNat = 2 ^ 7 - 1 from rfl, Nat.and_two_pow_sub_one_eq_mod, IntKind.wrap_i64]
  omega
theorem or128 {m : Int} (h : 0 ≤ m) (h' : m < 128) : bits BinOp.or IntKind.i64 m 128 = m + 128 := by
  obtain ⟨a, rfl⟩ := Int.eq_ofNat_of_zero_le h
  have ha : a < 2 ^ 7 := by omega
  show IntKind.i64.wrap ((BitVec.ofInt 64 (a : Int) ||| BitVec.ofInt 64 128).toNat : Int) = _
  have h1 : a ||| 128 = a + 128 := by
    have h := Nat.two_pow_add_eq_or_of_lt (i := 7) ha 1
    rw [show (2 : Nat) ^ 7 * 1 = 128 from rfl] at h
    rw [Nat.or_comm, ← h]
    omega
  rw [BitVec.toNat_or, BitVec.ofInt_natCast, BitVec.toNat_ofNat, Nat.mod_eq_of_lt (by omega), show (BitVec.ofInt 64 128).toNat = 128 from rfl, h1, IntKind.wrap_i64]
  omega

/-- What is left to be written after some bytes. -/
def UvRest (n : Int) (pre : List Int) (m : Int) : Prop := ∃ f, pre ++ uvF f m = uvF 6 n ∧ 0 ≤ m ∧ m < 128 ^ (f + 1) ∧ m ≤ 1000000000000 ∧ pre.length + f = 6
theorem UvRest.start {n : Int} (h0 : 0 ≤ n) (h1 : n ≤ 1000000000000) : UvRest n [] n := ⟨6, rfl, h0, by omega, h1, rfl⟩
theorem UvRest.step {n m : Int} {pre : List Int} (h : UvRest n pre m) (hm : 128 ≤ m) : UvRest n (pre ++ [m % 128 + 128]) (m / 128) := by
  obtain ⟨f, h1, h2, h3, h4, h5⟩ := h
  cases f with
  | zero => simp at h3; omega
  | succ f =>
    refine ⟨f, ?_, by omega, ?_, by omega, by simp; omega⟩
    · rw [← h1, List.append_assoc]
      simp [uvF, hm]
    · rw [Int.pow_succ] at h3
      exact Int.ediv_lt_of_lt_mul (by omega) h3
theorem UvRest.last {n m : Int} {pre : List Int} (h : UvRest n pre m) (hm : m < 128) : pre ++ [m] = uvF 6 n := by
  obtain ⟨f, h1, _⟩ := h
  rw [← h1, uvF_small f hm]
theorem UvRest.bounds {n m : Int} {pre : List Int} (h : UvRest n pre m) : 0 ≤ m ∧ m ≤ 1000000000000 ∧ pre.length ≤ 6 := by
  obtain ⟨f, _, h2, _, h4, h5⟩ := h
  exact ⟨h2, h4, by omega⟩

theorem uv_in {n : Int} (h : inR n 0 1000000000000 = true) : uv n = uvF 6 n := by simp [uv, h]
theorem uv_out {n : Int} (h : inR n 0 1000000000000 = false) : uv n = [] := by simp [uv, h]

/-- The loop that writes the bytes, from an owned slice on. -/
def UvInv (w : World) (bs : List Int) (n : Int) (v m : Value) (wr : World) : Prop :=
  ∃ a c ys pre, ∃ q : Int, v = .slice a ys.length c ∧ m = .int .i64 q ∧ OwnB wr w.heap.size a c ys ∧ ys = bs ++ pre ∧ UvRest n pre q ∧ Ext w wr

set_option maxHeartbeats 1000000 in
theorem implAppendUvarint_ok (a : Option Addr) (c : Nat) (bs : List Int) (n : Int) (w : World) (h : Vals w a (Y bs)) (hl : bs.length ≤ 1048576) :
    Calls Try.prog 165 #[.slice a bs.length c, .int .i64 n] w (NewY w (bs ++ uv n)) := by
  cases h1 : inR n 0 1000000000000
  · go_enter Try.func165, Try.ntmps165
    go_wp2_with (first | (go_at_call 96; refine (implInRange_ok _ _ _ _).mono ?_; rintro e w' ⟨rfl, rfl⟩) | (go_at_call 154; refine (cloneY_ok _ _ _ _ h hl).mono ?_; rintro e w' ⟨a1, c1, rfl, o1, e1⟩))
    go_ret
    rw [uv_out h1, List.append_nil]
    exact ⟨a1, c1, rfl, o1, e1⟩
  · obtain ⟨n0, n1⟩ := inR_true.1 h1
    go_enter Try.func165, Try.ntmps165
    go_wp2_with (first | (go_at_call 96; refine (implInRange_ok _ _ _ _).mono ?_; rintro e w' ⟨rfl, rfl⟩) | (go_at_call 154; refine (cloneY_ok _ _ _ _ h hl).mono ?_; rintro e w' ⟨a1, c1, rfl, o1, e1⟩))
    go_loopw [1, 5] (fun m v wr => UvInv w bs n v m wr) (fun m _ _ => (intOf m).toNat)
    case atStart => exact ⟨a1, c1, bs, [], n, rfl, rfl, o1, (List.append_nil _).symm, UvRest.start n0 n1, e1⟩
    case round =>
      clear o1 e1
      obtain ⟨a2, c2, ys, pre, q, rfl, rfl, o2, hy, hu, e2⟩ := hrel
      obtain ⟨q0, q1, q2⟩ := hu.bounds
      have hyl : ys.length ≤ 1048600 := by rw [hy, List.length_append]; omega
      have HY := Lib.hid hy
      clear hy
      by_cases hq : 128 ≤ q
      · have b1 := and127 q0 q1
        have b2 := or128 (m := q % 128) (by omega) (by omega)
        have hu' := hu.step hq
        obtain ⟨zs, hz⟩ : ∃ zs, Hid (zs = ys ++ [q % 128 + 128]) := ⟨_, rfl⟩
        go_wp2_with (at_builtin; refine wpList_appY _ rfl _ _ rfl w.heap.size _ _ ys rfl (o2.ext ((Ext.refl wr).alloc _)) _ _ [q % 128 + 128] rfl (Vals.new wr [.int .u8 (q % 128 + 128)] _) zs hz.out (by simp; omega) (by have := e2.size_le; simp; omega) ?_)
        intro a3 c3 w3 o3 g3 _
        have e3 := (e2.alloc (.cells (Y [q % 128 + 128]).toArray 5)).grown g3 (fun k hk => (o2.block k hk).1)
        clear g3 o2 b1 b2
        go_wp2_with fail
        go_roundw
        case rel => exact ⟨a3, c3, zs, pre ++ [q % 128 + 128], q / 128, rfl, rfl, o3, by rw [hz.out, HY.out, List.append_assoc], hu', e3⟩
        case measure => simp [intOf]; omega
      · have hlast := Lib.hid (hu.last (by omega))
        obtain ⟨zs, hz⟩ : ∃ zs, Hid (zs = ys ++ [q]) := ⟨_, rfl⟩
        go_wp2_with (at_builtin; refine wpList_appY _ rfl _ _ rfl w.heap.size _ _ ys rfl (o2.ext ((Ext.refl wr).alloc _)) _ _ [q] rfl (Vals.new wr [.int .u8 q] _) zs hz.out (by simp; omega) (by have := e2.size_le; simp; omega) ?_)
        intro a3 c3 w3 o3 g3 _
        have e3 := (e2.alloc (.cells (Y [q]).toArray 5)).grown g3 (fun k hk => (o2.block k hk).1)
        clear g3 o2
        go_wp2_with fail
        go_ret
        rw [uv_in h1, ← hlast.out, ← List.append_assoc, ← HY.out, ← hz.out]
        exact ⟨a3, c3, rfl, o3, e3⟩

set_option maxHeartbeats 1000000 in
theorem specAppendUvarint_ok (a : Option Addr) (c : Nat) (bs : List Int) (n : Int) (w : World) (h : Vals w a (Y bs)) (hl : bs.length ≤ 1048576) :
    Calls Try.prog 147 #[.slice a bs.length c, .int .i64 n] w (NewY w (bs ++ uv n)) := by
  cases h1 : inR n 0 1000000000000
  · go_enter Try.func147, Try.ntmps147
    go_wp2_with (at_builtin; refine wpList_appY _ rfl _ _ rfl w.heap.size _ _ [] rfl (OwnB.new w _ [] (Nat.le_refl _) (by simp)) _ _ bs rfl (h.ext ((Ext.refl w).alloc _)) bs rfl (by simp; omega) (by simp) ?_)
    intro a1 c1 w1 o1 g1 _
    have e1 := ((Ext.refl w).alloc (.cells (Y []).toArray 5)).grown g1 (by simp [blockOf])
    clear g1
    go_wp2_with (go_at_call 94; refine (specInRange_ok _ _ _ _).mono ?_; rintro e w' ⟨rfl, rfl⟩)
    go_ret
    rw [uv_out h1, List.append_nil]
    exact ⟨a1, c1, rfl, o1, e1⟩
  · obtain ⟨n0, n1⟩ := inR_true.1 h1
    go_enter Try.func147, Try.ntmps147
    go_wp2_with (at_builtin; refine wpList_appY _ rfl _ _ rfl w.heap.size _ _ [] rfl (OwnB.new w _ [] (Nat.le_refl _) (by simp)) _ _ bs rfl (h.ext ((Ext.refl w).alloc _)) bs rfl (by simp; omega) (by simp) ?_)
    intro a1 c1 w1 o1 g1 _
    have e1 := ((Ext.refl w).alloc (.cells (Y []).toArray 5)).grown g1 (by simp [blockOf])
    clear g1
    go_wp2_with (go_at_call 94; refine (specInRange_ok _ _ _ _).mono ?_; rintro e w' ⟨rfl, rfl⟩)
    go_loopw [1, 5] (fun m v wr => UvInv w bs n v m wr) (fun m _ _ => (intOf m).toNat)
    case atStart => exact ⟨a1, c1, bs, [], n, rfl, rfl, o1, (List.append_nil _).symm, UvRest.start n0 n1, e1⟩
    case round =>
      clear o1 e1
      obtain ⟨a2, c2, ys, pre, q, rfl, rfl, o2, hy, hu, e2⟩ := hrel
      obtain ⟨q0, q1, q2⟩ := hu.bounds
      have hyl : ys.length ≤ 1048600 := by rw [hy, List.length_append]; omega
      have HY := Lib.hid hy
      clear hy
      by_cases hq : 128 ≤ q
      · have b1 := and127 q0 q1
        have b2 := or128 (m := q % 128) (by omega) (by omega)
        have hu' := hu.step hq
        obtain ⟨zs, hz⟩ : ∃ zs, Hid (zs = ys ++ [q % 128 + 128]) := ⟨_, rfl⟩
        go_wp2_with (at_builtin; refine wpList_appY _ rfl _ _ rfl w.heap.size _ _ ys rfl (o2.ext ((Ext.refl wr).alloc _)) _ _ [q % 128 + 128] rfl (Vals.new wr [.int .u8 (q % 128 + 128)] _) zs hz.out (by simp; omega) (by have := e2.size_le; simp; omega) ?_)
        intro a3 c3 w3 o3 g3 _
        have e3 := (e2.alloc (.cells (Y [q % 128 + 128]).toArray 5)).grown g3 (fun k hk => (o2.block k hk).1)
        clear g3 o2 b1 b2
        go_wp2_with fail
        go_roundw
        case rel => exact ⟨a3, c3, zs, pre ++ [q % 128 + 128], q / 128, rfl, rfl, o3, by rw [hz.out, HY.out, List.append_assoc], hu', e3⟩
        case measure => simp [intOf]; omega
      · have hlast := Lib.hid (hu.last (by omega))
        obtain ⟨zs, hz⟩ : ∃ zs, Hid (zs = ys ++ [q]) := ⟨_, rfl⟩
        go_wp2_with (at_builtin; refine wpList_appY _ rfl _ _ rfl w.heap.size _ _ ys rfl (o2.ext ((Ext.refl wr).alloc _)) _ _ [q] rfl (Vals.new wr [.int .u8 q] _) zs hz.out (by simp; omega) (by have := e2.size_le; simp; omega) ?_)
        intro a3 c3 w3 o3 g3 _
        have e3 := (e2.alloc (.cells (Y [q]).toArray 5)).grown g3 (fun k hk => (o2.block k hk).1)
        clear g3 o2
        go_wp2_with fail
        go_ret
        rw [uv_in h1, ← hlast.out, ← List.append_assoc, ← HY.out, ← hz.out]
        exact ⟨a3, c3, rfl, o3, e3⟩

end Go.Proofs.Ytkegknophppdgaa
