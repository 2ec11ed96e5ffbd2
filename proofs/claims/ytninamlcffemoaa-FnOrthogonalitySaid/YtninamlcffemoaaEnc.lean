/- Contracts of slices.Clone, AppendUvarint, AppendBytes, EncodeInts. -/
import Derived.Test.YtninamlcffemoaaBytes
import Derived.Lib.SliceRun
import Derived.Laws.BitsAllLaws
import Derived.Laws.BitsLemmas
namespace Go.Proofs.Ytninamlcffemoaa
open Go.RowKit
set_option linter.unusedVariables false
set_option maxRecDepth 20000

theorem Vals.of_none {w : World} {vs : List Value} (h : Vals w none vs) : vs = [] := by
  cases vs with
  | nil => rfl
  | cons v r => obtain ⟨b, o, h, _⟩ := h 0 (by simp); cases h

set_option maxHeartbeats 400000 in
theorem cloneI_ok (a : Option Addr) (c : Nat) (xs : List Int) (w : World) (h : Vals w a (I xs)) (hl : xs.length ≤ 1048576) :
    Calls Try.prog 93 #[.slice a xs.length c] w (NewI w xs) := by
  have hq := fun W n => Lib.run_eql_slice_nil (P := Try.prog) W 36 3 a n c 0 0 Try.underlying36
  cases a with
  | none =>
    have hx : xs = [] := by simpa using h.of_none
    subst hx
    go_enter Try.func93, Try.ntmps93
    go_wp2
    go_ret
    exact ⟨none, 0, rfl, OwnI.nil _ _, Ext.refl _⟩
  | some ad =>
    go_enter Try.func93, Try.ntmps93
    go_wp2_with (at_builtin; refine wpList_appI _ rfl _ _ rfl w.heap.size _ _ [] rfl (OwnI.new w _ [] (Nat.le_refl _) (by simp)) _ _ xs rfl (h.ext ((Ext.refl w).alloc _)) xs rfl (by simp; omega) (by simp) ?_)
    intro a1 c1 w1 o1 g1 _
    have e1 := ((Ext.refl w).alloc (.cells (I []).toArray 3)).grown g1 (by simp [blockOf])
    go_wp2_with fail
    go_ret
    exact ⟨a1, c1, rfl, o1, e1⟩

/-- The bytes of a number, seven bits each, the last below 128. -/
def uvF : Nat → Int → List Int
  | 0, n => [n]
  | f + 1, n => if 128 ≤ n then (n % 128 + 128) :: uvF f (n / 128) else [n]
def uv (n : Int) : List Int := if inR n 0 1000000000000 then uvF 6 n else []
theorem uvF_small (f : Nat) {n : Int} (h : n < 128) : uvF f n = [n] := by
  cases f with
  | zero => rfl
  | succ f => simp [uvF]; omega
theorem uvF_len (f : Nat) (n : Int) : (uvF f n).length ≤ f + 1 := by
  induction f generalizing n with
  | zero => simp [uvF]
  | succ f ih =>
    unfold uvF
    split
    · have := ih (n / 128); simp; omega
    · simp
theorem uv_len (n : Int) : (uv n).length ≤ 7 := by
  unfold uv
  split
  · exact uvF_len 6 n
  · simp

theorem and127 {m : Int} (h : 0 ≤ m) (h' : m ≤ 1000000000000) : bits BinOp.and IntKind.i64 m 127 = m % 128 := by
  obtain ⟨a, rfl⟩ := Int.eq_ofNat_of_zero_le h
  have ha : a < 9223372036854775808 := by omega
  show IntKind.i64.wrap ((BitVec.ofInt 64 (a : Int) &&& BitVec.ofInt 64 127).toNat : Int) = _
  rw [BitVec.toNat_and, BitVec.ofInt_natCast, BitVec.toNat_ofNat, Nat.mod_eq_of_lt (by omega), show (BitVec.ofInt 64 127).toNat = 2 ^ 7 - 1 from rfl, Nat.and_two_pow_sub_one_eq_mod, IntKind.wrap_i64]
  omega
theorem or128 {m : Int} (h : 0 ≤ m) (h' : m < 128) : bits BinOp.or IntKind.i64 m 128 = m + 128 := by
  obtain ⟨a, rfl⟩ := Int.eq_ofNat_of_zero_le h
  have ha : a < 2 ^ 7 := by omega
  show IntKind.i64.wrap ((BitVec.ofInt 64 (a : Int) ||| BitVec.ofInt 64 128).toNat : Int) = _
  have h1 : a ||| 128 = a + 128 := by
    have h := Nat.two_pow_add_eq_or_of_lt (i := 7) ha 1
    rw [show (2 : Nat) ^ 7 * 1 = 128 from rfl] at h
    rw [Nat.or_comm, ← h]
    omega
  rw [BitVec.toNat_or, BitVec.ofInt_natCast, BitVec.toNat_ofNat, Nat.mod_eq_of_lt (by omega), show (BitVec.ofInt 64 128).toNat = 128 from rfl, h1, IntKind.wrap_i64]
  omega

/-- What is left to be written after some bytes. -/
def UvRest (n : Int) (pre : List Int) (m : Int) : Prop := ∃ f, pre ++ uvF f m = uvF 6 n ∧ 0 ≤ m ∧ m < 128 ^ (f + 1) ∧ m ≤ 1000000000000 ∧ pre.length + f = 6
theorem UvRest.start {n : Int} (h0 : 0 ≤ n) (h1 : n ≤ 1000000000000) : UvRest n [] n := ⟨6, rfl, h0, by omega, h1, rfl⟩
theorem UvRest.step {n m : Int} {pre : List Int} (h : UvRest n pre m) (hm : 128 ≤ m) : UvRest n (pre ++ [m % 128 + 128]) (m / 128) := by
  obtain ⟨f, h1, h2, h3, h4, h5⟩ := h
  cases f with
  | zero => simp at h3; omega
  | succ f =>
    refine ⟨f, ?_, by omega, ?_, by omega, by simp; omega⟩
    · rw [← h1, List.append_assoc]
      simp [uvF, hm]
    · rw [Int.pow_succ] at h3
      exact Int.ediv_lt_of_lt_mul (by omega) h3
theorem UvRest.last {n m : Int} {pre : List Int} (h : UvRest n pre m) (hm : m < 128) : pre ++ [m] = uvF 6 n := by
  obtain ⟨f, h1, _⟩ := h
  rw [← h1, uvF_small f hm]
theorem UvRest.bounds {n m : Int} {pre : List Int} (h : UvRest n pre m) : 0 ≤ m ∧ m ≤ 1000000000000 ∧ pre.length ≤ 6 := by
  obtain ⟨f, _, h2, _, h4, h5⟩ := h
  exact ⟨h2, h4, by omega⟩

theorem uv_in {n : Int} (h : inR n 0 1000000000000 = true) : uv n = uvF 6 n := by simp [uv, h]
theorem uv_out {n : Int} (h : inR n 0 1000000000000 = false) : uv n = [] := by simp [uv, h]

/-- The loop that writes the bytes, from an owned slice on. -/
def UvInv (w : World) (bs : List Int) (n : Int) (v m : Value) (wr : World) : Prop :=
  ∃ a c ys pre, ∃ q : Int, v = .slice a ys.length c ∧ m = .int .i64 q ∧ OwnB wr w.heap.size a c ys ∧ ys = bs ++ pre ∧ UvRest n pre q ∧ Ext w wr

end Go.Proofs.Ytninamlcffemoaa
