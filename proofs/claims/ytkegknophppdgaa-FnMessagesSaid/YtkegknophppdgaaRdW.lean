/- Contracts of ReadUvarint, DecodeInts, ReadBytes. -/
import Derived.Test.YtkegknophppdgaaRd
import Derived.Test.YtkegknophppdgaaSym2
namespace Go.Proofs.Ytkegknophppdgaa
open Go.RowKit
set_option linter.unusedVariables false
set_option maxRecDepth 20000

theorem or_add {a q j : Nat} (ha : a < 2 ^ j) : a ||| (q * 2 ^ j) = a + q * 2 ^ j := by
  have h := Nat.two_pow_add_eq_or_of_lt (i := j) ha q
  rw [Nat.or_comm, Nat.mul_comm q, ← h, Nat.add_comm]
theorem orI {n q P : Int} (j : Nat) (hP : P = 2 ^ j) (h0 : 0 ≤ n) (h1 : n < P) (q0 : 0 ≤ q) (q1 : q ≤ 127) (hj : j ≤ 35) : bits BinOp.or IntKind.i64 n (q * P) = n + q * P := by
  obtain ⟨a, rfl⟩ := Int.eq_ofNat_of_zero_le h0
  obtain ⟨b, rfl⟩ := Int.eq_ofNat_of_zero_le q0
  have hp : (2 : Nat) ^ j ≤ 2 ^ 35 := Nat.pow_le_pow_right (by omega) hj
  have hp' : (2 : Nat) ^ 35 = 34359738368 := by decide
  have hPn : P = ((2 ^ j : Nat) : Int) := by rw [hP]; simp
  subst hP
  rw [hPn] at h1 ⊢
  have ha : a < 2 ^ j := by omega
  have hq : b * 2 ^ j ≤ 127 * 2 ^ 35 := Nat.mul_le_mul (by omega) hp
  rw [← Int.natCast_mul]
  show IntKind.i64.wrap ((BitVec.ofInt 64 (a : Int) ||| BitVec.ofInt 64 ((b * 2 ^ j : Nat) : Int)).toNat : Int) = _
  rw [BitVec.toNat_or, BitVec.ofInt_natCast, BitVec.ofInt_natCast, BitVec.toNat_ofNat, BitVec.toNat_ofNat, Nat.mod_eq_of_lt (by omega), Nat.mod_eq_of_lt (by omega), or_add ha, IntKind.wrap_i64]
  omega
theorem andU127 {m : Int} (h : 0 ≤ m) (h' : m ≤ 255) : bits BinOp.and IntKind.u8 m 127 = m % 128 := by
  obtain ⟨a, rfl⟩ := Int.eq_ofNat_of_zero_le h
  have ha : a < 256 := by omega
  have : ∀ a, a < 256 → bits BinOp.and IntKind.u8 ((a : Nat) : Int) 127 = ((a : Nat) : Int) % 128 := by decide +kernel
  exact this a ha
theorem andU128 {m : Int} (h : 0 ≤ m) (h' : m ≤ 255) : bits BinOp.and IntKind.u8 m 128 = if 128 ≤ m then 128 else 0 := by
  obtain ⟨a, rfl⟩ := Int.eq_ofNat_of_zero_le h
  have ha : a < 256 := by omega
  have : ∀ a, a < 256 → bits BinOp.and IntKind.u8 ((a : Nat) : Int) 128 = if 128 ≤ ((a : Nat) : Int) then 128 else 0 := by decide +kernel
  exact this a ha

/-- k bytes of the number at t were read, they make m. -/
def RdInv (bs : List Int) (t k : Nat) (m : Int) : Prop := rdF (6 - k) (bs.drop (t + k)) k m = rdU bs t ∧ 0 ≤ m ∧ m < 128 ^ k
theorem RdInv.start (bs : List Int) (t : Nat) : RdInv bs t 0 0 := ⟨rfl, by omega, by decide⟩
theorem RdInv.more {bs : List Int} {t k : Nat} {m x : Int} (h : RdInv bs t k m) (hk : k < 6) (hx : bs[t + k]? = some x) (h128 : 128 ≤ x) : RdInv bs t (k + 1) (m + x % 128 * 128 ^ k) := by
  obtain ⟨h1, h2, h3⟩ := h
  obtain ⟨hl, rfl⟩ := List.getElem?_eq_some_iff.1 hx
  rw [show 6 - k = (6 - (k + 1)) + 1 by omega, List.drop_eq_getElem_cons hl] at h1
  unfold rdF at h1
  rw [if_pos h128] at h1
  have hp : (0 : Int) < 128 ^ k := Int.pow_pos (by omega)
  have hm : (bs[t + k] % 128) * 128 ^ k ≤ 127 * 128 ^ k := Int.mul_le_mul_of_nonneg_right (by omega) (by omega)
  have hm0 : 0 ≤ (bs[t + k] % 128) * 128 ^ k := Int.mul_nonneg (by omega) (by omega)
  exact ⟨h1, by omega, by rw [Int.pow_succ]; omega⟩
theorem RdInv.last {bs : List Int} {t k : Nat} {m x : Int} (h : RdInv bs t k m) (hk : k < 6) (hx : bs[t + k]? = some x) (h128 : ¬ 128 ≤ x) : rdU bs t = if (x = 0 ∧ 0 < k) ∨ 1000000000000 < m + x * 128 ^ k then none else some (m + x * 128 ^ k, k + 1) := by
  obtain ⟨h1, h2, h3⟩ := h
  obtain ⟨hl, rfl⟩ := List.getElem?_eq_some_iff.1 hx
  rw [show 6 - k = (6 - (k + 1)) + 1 by omega, List.drop_eq_getElem_cons hl] at h1
  unfold rdF at h1
  rw [if_neg h128] at h1
  exact h1.symm
theorem RdInv.end_ {bs : List Int} {t k : Nat} {m : Int} (h : RdInv bs t k m) (hl : ¬ (k < 6 ∧ t + k < bs.length)) : rdU bs t = none := by
  obtain ⟨h1, h2, h3⟩ := h
  rw [← h1]
  by_cases hk : k < 6
  · rw [show 6 - k = (6 - (k + 1)) + 1 by omega, List.drop_of_length_le (by omega)]
    rfl
  · rw [show 6 - k = 0 by omega]
    cases bs.drop (t + k) <;> rfl

def rdV (bs : List Int) (t : Nat) : Value := match rdU bs t with | none => .tuple #[.int .i64 0, .int .i64 0, .bool false] | some p => .tuple #[.int .i64 p.1, .int .i64 ((t + p.2 : Nat) : Int), .bool true]
theorem rdV_none {bs : List Int} {t : Nat} (h : rdU bs t = none) : rdV bs t = .tuple #[.int .i64 0, .int .i64 0, .bool false] := by unfold rdV; rw [h]
theorem rdV_some {bs : List Int} {t c : Nat} {n : Int} (h : rdU bs t = some (n, c)) : rdV bs t = .tuple #[.int .i64 n, .int .i64 ((t + c : Nat) : Int), .bool true] := by unfold rdV; rw [h]
theorem ret_tup {n m : Int} {b : Bool} {v : Value} (h : v = .tuple #[.int .i64 n, .int .i64 m, .bool b]) : Ending.returned (.tuple #[.int .i64 n, .int .i64 m, .bool b]) = .returned v := by rw [h]

set_option maxHeartbeats 4000000 in
theorem implReadUvarint_ok (a : Option Addr) (c : Nat) (bs : List Int) (t : Nat) (w : World) (h : Vals w a (Y bs)) (hb : AllB bs) (hl : bs.length ≤ 1048576) (ht : t ≤ 1048576) :
    Calls Try.prog 151 #[.slice a bs.length c, .int .i64 t] w fun e w' => e = .returned (rdV bs t) ∧ w = w' := by
  have hr0 := RdInv.start bs t
  have R0 := Lib.hid hr0
  have HB := Lib.hid hb
  clear hr0 hb
  go_enter Try.func151, Try.ntmps151
  go_wp2
  go_loop [7, 8] (fun n i => ∃ (k m : Int), 0 ≤ k ∧ k ≤ 6 ∧ i = .int .i64 k ∧ n = .int .i64 m ∧ Hid (RdInv bs t k.toNat m)) (fun _ i => (6 - intOf i).toNat)
  case atStart => exact ⟨0, 0, by omega, by omega, rfl, rfl, R0⟩
  case round =>
    clear R0
    obtain ⟨k, m, hk0, hk6, rfl, rfl, hinv⟩ := hrel
    by_cases hlt : k < 6 ∧ t + k < bs.length
    · obtain ⟨hk, htk⟩ := hlt
      obtain ⟨hm0, hm1⟩ := hinv.out.2
      have hkc : k = 0 ∨ k = 1 ∨ k = 2 ∨ k = 3 ∨ k = 4 ∨ k = 5 := by omega
      clear hk0 hk6
      rcases hkc with rfl | rfl | rfl | rfl | rfl | rfl
      · obtain ⟨b, o, x, rfl, hb', hx, hc⟩ := h.atY (k := t + 0) (by omega)
        rw [Nat.add_zero] at hc hx
        obtain ⟨x0, x1⟩ := HB.out.get hx.out
        have hm2 : m < 1 := by simpa using hm1
        obtain rfl : m = 0 := by omega
        have o1 : bits BinOp.or IntKind.i64 0 (x % 128) = x % 128 := by have := orI (n := 0) (q := x % 128) (P := 1) 0 (by decide) (by omega) (by omega) (by omega) (by omega) (by omega); simpa using this
        have a1 := andU127 x0 x1
        have a2 := andU128 x0 x1
        by_cases h128 : 128 ≤ x
        · rw [if_pos h128] at a2
          have hinv' := Lib.hid (hinv.out.more (by decide) hx.out h128)
          have hval : Hid (RdInv bs t (1 : Int).toNat (x % 128)) := by simpa [Hid] using hinv'.out
          clear hinv hinv' hm1 hx hm2
          go_wp2
          go_round
          case rel => exact ⟨1, _, by omega, by omega, rfl, rfl, hval⟩
          case measure => simp [intOf]
        · rw [if_neg h128] at a2
          have hlast := Lib.hid (hinv.out.last (by decide) hx.out h128)
          have hmod : x % 128 = x := by omega
          rw [hmod] at o1 a1
          have hval : Hid (rdU bs t = some (x, 1)) := by have := hlast.out; simp at this; rw [this]; simp [Hid]; omega
          have hbig : ¬ 1000000000000 < x := by omega
          clear hinv hlast hm1 hx hmod hm2
          go_wp2
          go_ret3
          exact ⟨ret_tup (rdV_some hval.out), rfl⟩
      · obtain ⟨b, o, x, rfl, hb', hx, hc⟩ := h.atY (k := t + 1) (by omega)
        obtain ⟨x0, x1⟩ := HB.out.get hx.out
        have hm2 : m < 128 := by simpa using hm1
        have o1 := orI (n := m) (q := x % 128) (P := 128) 7 (by decide) hm0 hm2 (by omega) (by omega) (by omega)
        have a1 := andU127 x0 x1
        have a2 := andU128 x0 x1
        by_cases h128 : 128 ≤ x
        · rw [if_pos h128] at a2
          have hinv' := Lib.hid (hinv.out.more (by decide) hx.out h128)
          have hval : Hid (RdInv bs t (2 : Int).toNat (m + x % 128 * 128)) := by simpa [Hid] using hinv'.out
          clear hinv hinv' hm1 hx hm2
          go_wp2
          go_round
          case rel => exact ⟨2, _, by omega, by omega, rfl, rfl, hval⟩
          case measure => simp [intOf]
        · rw [if_neg h128] at a2
          have hlast := Lib.hid (hinv.out.last (by decide) hx.out h128)
          have hmod : x % 128 = x := by omega
          rw [hmod] at o1 a1
          have hval : Hid (rdU bs t = if (x = 0 ∧ 0 < 1) ∨ 1000000000000 < m + x * 128 then none else some (m + x * 128, 2)) := by have := hlast.out; simpa [Hid] using this
          clear hinv hlast hm1 hx hmod
          by_cases hz : x = 0
          · have hno : Hid (rdU bs t = none) := by rw [hval.out, if_pos (.inl ⟨hz, by omega⟩)]; exact Lib.hid rfl
            have hz' : (x == 0) = true := by simp [hz]
            clear hval
            subst hz
            go_wp2
            go_ret3
            exact ⟨ret_tup (rdV_none hno.out), rfl⟩
          · have hz' : (x == 0) = false := by simp [hz]
            by_cases hbig : 1000000000000 < m + x * 128
            · have hno : Hid (rdU bs t = none) := by rw [hval.out, if_pos (.inr hbig)]; exact Lib.hid rfl
              clear hval hz
              go_wp2
              all_goals
                go_ret3
                exact ⟨ret_tup (rdV_none hno.out), rfl⟩
            · have hyes : Hid (rdU bs t = some (m + x * 128, 2)) := by rw [hval.out, if_neg (by rintro (⟨h1, _⟩ | h1); exact hz h1; exact hbig h1)]; exact Lib.hid rfl
              clear hval hz
              go_wp2
              go_ret3
              exact ⟨ret_tup (rdV_some hyes.out), rfl⟩
      · obtain ⟨b, o, x, rfl, hb', hx, hc⟩ := h.atY (k := t + 2) (by omega)
        obtain ⟨x0, x1⟩ := HB.out.get hx.out
        have hm2 : m < 16384 := by simpa using hm1
        have o1 := orI (n := m) (q := x % 128) (P := 16384) 14 (by decide) hm0 hm2 (by omega) (by omega) (by omega)
        have a1 := andU127 x0 x1
        have a2 := andU128 x0 x1
        by_cases h128 : 128 ≤ x
        · rw [if_pos h128] at a2
          have hinv' := Lib.hid (hinv.out.more (by decide) hx.out h128)
          have hval : Hid (RdInv bs t (3 : Int).toNat (m + x % 128 * 16384)) := by simpa [Hid] using hinv'.out
          clear hinv hinv' hm1 hx hm2
          go_wp2
          go_round
          case rel => exact ⟨3, _, by omega, by omega, rfl, rfl, hval⟩
          case measure => simp [intOf]
        · rw [if_neg h128] at a2
          have hlast := Lib.hid (hinv.out.last (by decide) hx.out h128)
          have hmod : x % 128 = x := by omega
          rw [hmod] at o1 a1
          have hval : Hid (rdU bs t = if (x = 0 ∧ 0 < 2) ∨ 1000000000000 < m + x * 16384 then none else some (m + x * 16384, 3)) := by have := hlast.out; simpa [Hid] using this
          clear hinv hlast hm1 hx hmod
          by_cases hz : x = 0
          · have hno : Hid (rdU bs t = none) := by rw [hval.out, if_pos (.inl ⟨hz, by omega⟩)]; exact Lib.hid rfl
            have hz' : (x == 0) = true := by simp [hz]
            clear hval
            subst hz
            go_wp2
            go_ret3
            exact ⟨ret_tup (rdV_none hno.out), rfl⟩
          · have hz' : (x == 0) = false := by simp [hz]
            by_cases hbig : 1000000000000 < m + x * 16384
            · have hno : Hid (rdU bs t = none) := by rw [hval.out, if_pos (.inr hbig)]; exact Lib.hid rfl
              clear hval hz
              go_wp2
              all_goals
                go_ret3
                exact ⟨ret_tup (rdV_none hno.out), rfl⟩
            · have hyes : Hid (rdU bs t = some (m + x * 16384, 3)) := by rw [hval.out, if_neg (by rintro (⟨h1, _⟩ | h1); exact hz h1; exact hbig h1)]; exact Lib.hid rfl
              clear hval hz
              go_wp2
              go_ret3
              exact ⟨ret_tup (rdV_some hyes.out), rfl⟩
      · obtain ⟨b, o, x, rfl, hb', hx, hc⟩ := h.atY (k := t + 3) (by omega)
        obtain ⟨x0, x1⟩ := HB.out.get hx.out
        have hm2 : m < 2097152 := by simpa using hm1
        have o1 := orI (n := m) (q := x % 128) (P := 2097152) 21 (by decide) hm0 hm2 (by omega) (by omega) (by omega)
        have a1 := andU127 x0 x1
        have a2 := andU128 x0 x1
        by_cases h128 : 128 ≤ x
        · rw [if_pos h128] at a2
          have hinv' := Lib.hid (hinv.out.more (by decide) hx.out h128)
          have hval : Hid (RdInv bs t (4 : Int).toNat (m + x % 128 * 2097152)) := by simpa [Hid] using hinv'.out
          clear hinv hinv' hm1 hx hm2
          go_wp2
          go_round
          case rel => exact ⟨4, _, by omega, by omega, rfl, rfl, hval⟩
          case measure => simp [intOf]
        · rw [if_neg h128] at a2
          have hlast := Lib.hid (hinv.out.last (by decide) hx.out h128)
          have hmod : x % 128 = x := by omega
          rw [hmod] at o1 a1
          have hval : Hid (rdU bs t = if (x = 0 ∧ 0 < 3) ∨ 1000000000000 < m + x * 2097152 then none else some (m + x * 2097152, 4)) := by have := hlast.out; simpa [Hid] using this
          clear hinv hlast hm1 hx hmod
          by_cases hz : x = 0
          · have hno : Hid (rdU bs t = none) := by rw [hval.out, if_pos (.inl ⟨hz, by omega⟩)]; exact Lib.hid rfl
            have hz' : (x == 0) = true := by simp [hz]
            clear hval
            subst hz
            go_wp2
            go_ret3
            exact ⟨ret_tup (rdV_none hno.out), rfl⟩
          · have hz' : (x == 0) = false := by simp [hz]
            by_cases hbig : 1000000000000 < m + x * 2097152
            · have hno : Hid (rdU bs t = none) := by rw [hval.out, if_pos (.inr hbig)]; exact Lib.hid rfl
              clear hval hz
              go_wp2
              all_goals
                go_ret3
                exact ⟨ret_tup (rdV_none hno.out), rfl⟩
            · have hyes : Hid (rdU bs t = some (m + x * 2097152, 4)) := by rw [hval.out, if_neg (by rintro (⟨h1, _⟩ | h1); exact hz h1; exact hbig h1)]; exact Lib.hid rfl
              clear hval hz
              go_wp2
              go_ret3
              exact ⟨ret_tup (rdV_some hyes.out), rfl⟩
      · obtain ⟨b, o, x, rfl, hb', hx, hc⟩ := h.atY (k := t + 4) (by omega)
        obtain ⟨x0, x1⟩ := HB.out.get hx.out
        have hm2 : m < 268435456 := by simpa using hm1
        have o1 := orI (n := m) (q := x % 128) (P := 268435456) 28 (by decide) hm0 hm2 (by omega) (by omega) (by omega)
        have a1 := andU127 x0 x1
        have a2 := andU128 x0 x1
        by_cases h128 : 128 ≤ x
        · rw [if_pos h128] at a2
          have hinv' := Lib.hid (hinv.out.more (by decide) hx.out h128)
          have hval : Hid (RdInv bs t (5 : Int).toNat (m + x % 128 * 268435456)) := by simpa [Hid] using hinv'.out
          clear hinv hinv' hm1 hx hm2
          go_wp2
          go_round
          case rel => exact ⟨5, _, by omega, by omega, rfl, rfl, hval⟩
          case measure => simp [intOf]
        · rw [if_neg h128] at a2
          have hlast := Lib.hid (hinv.out.last (by decide) hx.out h128)
          have hmod : x % 128 = x := by omega
          rw [hmod] at o1 a1
          have hval : Hid (rdU bs t = if (x = 0 ∧ 0 < 4) ∨ 1000000000000 < m + x * 268435456 then none else some (m + x * 268435456, 5)) := by have := hlast.out; simpa [Hid] using this
          clear hinv hlast hm1 hx hmod
          by_cases hz : x = 0
          · have hno : Hid (rdU bs t = none) := by rw [hval.out, if_pos (.inl ⟨hz, by omega⟩)]; exact Lib.hid rfl
            have hz' : (x == 0) = true := by simp [hz]
            clear hval
            subst hz
            go_wp2
            go_ret3
            exact ⟨ret_tup (rdV_none hno.out), rfl⟩
          · have hz' : (x == 0) = false := by simp [hz]
            by_cases hbig : 1000000000000 < m + x * 268435456
            · have hno : Hid (rdU bs t = none) := by rw [hval.out, if_pos (.inr hbig)]; exact Lib.hid rfl
              clear hval hz
              go_wp2
              all_goals
                go_ret3
                exact ⟨ret_tup (rdV_none hno.out), rfl⟩
            · have hyes : Hid (rdU bs t = some (m + x * 268435456, 5)) := by rw [hval.out, if_neg (by rintro (⟨h1, _⟩ | h1); exact hz h1; exact hbig h1)]; exact Lib.hid rfl
              clear hval hz
              go_wp2
              go_ret3
              exact ⟨ret_tup (rdV_some hyes.out), rfl⟩
      · obtain ⟨b, o, x, rfl, hb', hx, hc⟩ := h.atY (k := t + 5) (by omega)
        obtain ⟨x0, x1⟩ := HB.out.get hx.out
        have hm2 : m < 34359738368 := by simpa using hm1
        have o1 := orI (n := m) (q := x % 128) (P := 34359738368) 35 (by decide) hm0 hm2 (by omega) (by omega) (by omega)
        have a1 := andU127 x0 x1
        have a2 := andU128 x0 x1
        by_cases h128 : 128 ≤ x
        · rw [if_pos h128] at a2
          have hinv' := Lib.hid (hinv.out.more (by decide) hx.out h128)
          have hval : Hid (RdInv bs t (6 : Int).toNat (m + x % 128 * 34359738368)) := by simpa [Hid] using hinv'.out
          clear hinv hinv' hm1 hx hm2
          go_wp2
          go_round
          case rel => exact ⟨6, _, by omega, by omega, rfl, rfl, hval⟩
          case measure => simp [intOf]
        · rw [if_neg h128] at a2
          have hlast := Lib.hid (hinv.out.last (by decide) hx.out h128)
          have hmod : x % 128 = x := by omega
          rw [hmod] at o1 a1
          have hval : Hid (rdU bs t = if (x = 0 ∧ 0 < 5) ∨ 1000000000000 < m + x * 34359738368 then none else some (m + x * 34359738368, 6)) := by have := hlast.out; simpa [Hid] using this
          clear hinv hlast hm1 hx hmod
          by_cases hz : x = 0
          · have hno : Hid (rdU bs t = none) := by rw [hval.out, if_pos (.inl ⟨hz, by omega⟩)]; exact Lib.hid rfl
            have hz' : (x == 0) = true := by simp [hz]
            clear hval
            subst hz
            go_wp2
            go_ret3
            exact ⟨ret_tup (rdV_none hno.out), rfl⟩
          · have hz' : (x == 0) = false := by simp [hz]
            by_cases hbig : 1000000000000 < m + x * 34359738368
            · have hno : Hid (rdU bs t = none) := by rw [hval.out, if_pos (.inr hbig)]; exact Lib.hid rfl
              clear hval hz
              go_wp2
              all_goals
                go_ret3
                exact ⟨ret_tup (rdV_none hno.out), rfl⟩
            · have hyes : Hid (rdU bs t = some (m + x * 34359738368, 6)) := by rw [hval.out, if_neg (by rintro (⟨h1, _⟩ | h1); exact hz h1; exact hbig h1)]; exact Lib.hid rfl
              clear hval hz
              go_wp2
              go_ret3
              exact ⟨ret_tup (rdV_some hyes.out), rfl⟩
    · have hend := Lib.hid (hinv.out.end_ (by omega))
      by_cases hk : k < 6
      · have htk : ¬ t + k < bs.length := by omega
        clear hlt
        go_wp2
        go_ret3
        exact ⟨ret_tup (rdV_none hend.out), rfl⟩
      · clear hlt
        go_wp2
        go_ret3
        exact ⟨ret_tup (rdV_none hend.out), rfl⟩

set_option maxHeartbeats 4000000 in
theorem specReadUvarint_ok (a : Option Addr) (c : Nat) (bs : List Int) (t : Nat) (w : World) (h : Vals w a (Y bs)) (hb : AllB bs) (hl : bs.length ≤ 1048576) (ht : t ≤ 1048576) :
    Calls Try.prog 111 #[.slice a bs.length c, .int .i64 t] w fun e w' => e = .returned (rdV bs t) ∧ w = w' := by
  have hr0 := RdInv.start bs t
  have R0 := Lib.hid hr0
  have HB := Lib.hid hb
  clear hr0 hb
  go_enter Try.func111, Try.ntmps111
  go_wp2
  go_loop [7, 8] (fun n i => ∃ (k m : Int), 0 ≤ k ∧ k ≤ 6 ∧ i = .int .i64 k ∧ n = .int .i64 m ∧ Hid (RdInv bs t k.toNat m)) (fun _ i => (6 - intOf i).toNat)
  case atStart => exact ⟨0, 0, by omega, by omega, rfl, rfl, R0⟩
  case round =>
    clear R0
    obtain ⟨k, m, hk0, hk6, rfl, rfl, hinv⟩ := hrel
    by_cases hlt : k < 6 ∧ t + k < bs.length
    · obtain ⟨hk, htk⟩ := hlt
      obtain ⟨hm0, hm1⟩ := hinv.out.2
      have hkc : k = 0 ∨ k = 1 ∨ k = 2 ∨ k = 3 ∨ k = 4 ∨ k = 5 := by omega
      clear hk0 hk6
      rcases hkc with rfl | rfl | rfl | rfl | rfl | rfl
      · obtain ⟨b, o, x, rfl, hb', hx, hc⟩ := h.atY (k := t + 0) (by omega)
        have i9 : ¬ ((bs.length : Int) ≤ (t : Int)) := by omega
        rw [Nat.add_zero] at hc hx
        obtain ⟨x0, x1⟩ := HB.out.get hx.out
        have hm2 : m < 1 := by simpa using hm1
        obtain rfl : m = 0 := by omega
        have o1 : bits BinOp.or IntKind.i64 0 (x % 128) = x % 128 := by have := orI (n := 0) (q := x % 128) (P := 1) 0 (by decide) (by omega) (by omega) (by omega) (by omega) (by omega); simpa using this
        have a1 := and127 x0 (by omega)
        by_cases h128 : 128 ≤ x
        · have hinv' := Lib.hid (hinv.out.more (by decide) hx.out h128)
          have hval : Hid (RdInv bs t (1 : Int).toNat (x % 128)) := by simpa [Hid] using hinv'.out
          clear hinv hinv' hm1 hx hm2
          go_wp2
          go_round
          case rel => exact ⟨1, _, by omega, by omega, rfl, rfl, hval⟩
          case measure => simp [intOf]
        · have hlast := Lib.hid (hinv.out.last (by decide) hx.out h128)
          have hmod : x % 128 = x := by omega
          rw [hmod] at o1 a1
          have hval : Hid (rdU bs t = some (x, 1)) := by have := hlast.out; simp at this; rw [this]; simp [Hid]; omega
          have hbig : ¬ 1000000000000 < x := by omega
          clear hinv hlast hm1 hx hmod hm2
          by_cases hz : x = 0
          · subst hz
            go_wp2
            go_ret3
            exact ⟨ret_tup (rdV_some hval.out), rfl⟩
          · have hz' : (x == 0) = false := by simp [hz]
            go_wp2
            go_ret3
            exact ⟨ret_tup (rdV_some hval.out), rfl⟩
      · obtain ⟨b, o, x, rfl, hb', hx, hc⟩ := h.atY (k := t + 1) (by omega)
        have i9 : ¬ ((bs.length : Int) - 1 ≤ (t : Int)) := by omega
        obtain ⟨x0, x1⟩ := HB.out.get hx.out
        have hm2 : m < 128 := by simpa using hm1
        have o1 := orI (n := m) (q := x % 128) (P := 128) 7 (by decide) hm0 hm2 (by omega) (by omega) (by omega)
        have a1 := and127 x0 (by omega)
        by_cases h128 : 128 ≤ x
        · have hinv' := Lib.hid (hinv.out.more (by decide) hx.out h128)
          have hval : Hid (RdInv bs t (2 : Int).toNat (m + x % 128 * 128)) := by simpa [Hid] using hinv'.out
          clear hinv hinv' hm1 hx hm2
          go_wp2
          go_round
          case rel => exact ⟨2, _, by omega, by omega, rfl, rfl, hval⟩
          case measure => simp [intOf]
        · have hlast := Lib.hid (hinv.out.last (by decide) hx.out h128)
          have hmod : x % 128 = x := by omega
          rw [hmod] at o1 a1
          have hval : Hid (rdU bs t = if (x = 0 ∧ 0 < 1) ∨ 1000000000000 < m + x * 128 then none else some (m + x * 128, 2)) := by have := hlast.out; simpa [Hid] using this
          clear hinv hlast hm1 hx hmod
          by_cases hz : x = 0
          · have hno : Hid (rdU bs t = none) := by rw [hval.out, if_pos (.inl ⟨hz, by omega⟩)]; exact Lib.hid rfl
            have hz' : (x == 0) = true := by simp [hz]
            clear hval
            subst hz
            go_wp2
            go_ret3
            exact ⟨ret_tup (rdV_none hno.out), rfl⟩
          · have hz' : (x == 0) = false := by simp [hz]
            by_cases hbig : 1000000000000 < m + x * 128
            · have hno : Hid (rdU bs t = none) := by rw [hval.out, if_pos (.inr hbig)]; exact Lib.hid rfl
              clear hval hz
              go_wp2
              all_goals
                go_ret3
                exact ⟨ret_tup (rdV_none hno.out), rfl⟩
            · have hyes : Hid (rdU bs t = some (m + x * 128, 2)) := by rw [hval.out, if_neg (by rintro (⟨h1, _⟩ | h1); exact hz h1; exact hbig h1)]; exact Lib.hid rfl
              clear hval hz
              go_wp2
              go_ret3
              exact ⟨ret_tup (rdV_some hyes.out), rfl⟩
      · obtain ⟨b, o, x, rfl, hb', hx, hc⟩ := h.atY (k := t + 2) (by omega)
        have i9 : ¬ ((bs.length : Int) - 2 ≤ (t : Int)) := by omega
        obtain ⟨x0, x1⟩ := HB.out.get hx.out
        have hm2 : m < 16384 := by simpa using hm1
        have o1 := orI (n := m) (q := x % 128) (P := 16384) 14 (by decide) hm0 hm2 (by omega) (by omega) (by omega)
        have a1 := and127 x0 (by omega)
        by_cases h128 : 128 ≤ x
        · have hinv' := Lib.hid (hinv.out.more (by decide) hx.out h128)
          have hval : Hid (RdInv bs t (3 : Int).toNat (m + x % 128 * 16384)) := by simpa [Hid] using hinv'.out
          clear hinv hinv' hm1 hx hm2
          go_wp2
          go_round
          case rel => exact ⟨3, _, by omega, by omega, rfl, rfl, hval⟩
          case measure => simp [intOf]
        · have hlast := Lib.hid (hinv.out.last (by decide) hx.out h128)
          have hmod : x % 128 = x := by omega
          rw [hmod] at o1 a1
          have hval : Hid (rdU bs t = if (x = 0 ∧ 0 < 2) ∨ 1000000000000 < m + x * 16384 then none else some (m + x * 16384, 3)) := by have := hlast.out; simpa [Hid] using this
          clear hinv hlast hm1 hx hmod
          by_cases hz : x = 0
          · have hno : Hid (rdU bs t = none) := by rw [hval.out, if_pos (.inl ⟨hz, by omega⟩)]; exact Lib.hid rfl
            have hz' : (x == 0) = true := by simp [hz]
            clear hval
            subst hz
            go_wp2
            go_ret3
            exact ⟨ret_tup (rdV_none hno.out), rfl⟩
          · have hz' : (x == 0) = false := by simp [hz]
            by_cases hbig : 1000000000000 < m + x * 16384
            · have hno : Hid (rdU bs t = none) := by rw [hval.out, if_pos (.inr hbig)]; exact Lib.hid rfl
              clear hval hz
              go_wp2
              all_goals
                go_ret3
                exact ⟨ret_tup (rdV_none hno.out), rfl⟩
            · have hyes : Hid (rdU bs t = some (m + x * 16384, 3)) := by rw [hval.out, if_neg (by rintro (⟨h1, _⟩ | h1); exact hz h1; exact hbig h1)]; exact Lib.hid rfl
              clear hval hz
              go_wp2
              go_ret3
              exact ⟨ret_tup (rdV_some hyes.out), rfl⟩
      · obtain ⟨b, o, x, rfl, hb', hx, hc⟩ := h.atY (k := t + 3) (by omega)
        have i9 : ¬ ((bs.length : Int) - 3 ≤ (t : Int)) := by omega
        obtain ⟨x0, x1⟩ := HB.out.get hx.out
        have hm2 : m < 2097152 := by simpa using hm1
        have o1 := orI (n := m) (q := x % 128) (P := 2097152) 21 (by decide) hm0 hm2 (by omega) (by omega) (by omega)
        have a1 := and127 x0 (by omega)
        by_cases h128 : 128 ≤ x
        · have hinv' := Lib.hid (hinv.out.more (by decide) hx.out h128)
          have hval : Hid (RdInv bs t (4 : Int).toNat (m + x % 128 * 2097152)) := by simpa [Hid] using hinv'.out
          clear hinv hinv' hm1 hx hm2
          go_wp2
          go_round
          case rel => exact ⟨4, _, by omega, by omega, rfl, rfl, hval⟩
          case measure => simp [intOf]
        · have hlast := Lib.hid (hinv.out.last (by decide) hx.out h128)
          have hmod : x % 128 = x := by omega
          rw [hmod] at o1 a1
          have hval : Hid (rdU bs t = if (x = 0 ∧ 0 < 3) ∨ 1000000000000 < m + x * 2097152 then none else some (m + x * 2097152, 4)) := by have := hlast.out; simpa [Hid] using this
          clear hinv hlast hm1 hx hmod
          by_cases hz : x = 0
          · have hno : Hid (rdU bs t = none) := by rw [hval.out, if_pos (.inl ⟨hz, by omega⟩)]; exact Lib.hid rfl
            have hz' : (x == 0) = true := by simp [hz]
            clear hval
            subst hz
            go_wp2
            go_ret3
            exact ⟨ret_tup (rdV_none hno.out), rfl⟩
          · have hz' : (x == 0) = false := by simp [hz]
            by_cases hbig : 1000000000000 < m + x * 2097152
            · have hno : Hid (rdU bs t = none) := by rw [hval.out, if_pos (.inr hbig)]; exact Lib.hid rfl
              clear hval hz
              go_wp2
              all_goals
                go_ret3
                exact ⟨ret_tup (rdV_none hno.out), rfl⟩
            · have hyes : Hid (rdU bs t = some (m + x * 2097152, 4)) := by rw [hval.out, if_neg (by rintro (⟨h1, _⟩ | h1); exact hz h1; exact hbig h1)]; exact Lib.hid rfl
              clear hval hz
              go_wp2
              go_ret3
              exact ⟨ret_tup (rdV_some hyes.out), rfl⟩
      · obtain ⟨b, o, x, rfl, hb', hx, hc⟩ := h.atY (k := t + 4) (by omega)
        have i9 : ¬ ((bs.length : Int) - 4 ≤ (t : Int)) := by omega
        obtain ⟨x0, x1⟩ := HB.out.get hx.out
        have hm2 : m < 268435456 := by simpa using hm1
        have o1 := orI (n := m) (q := x % 128) (P := 268435456) 28 (by decide) hm0 hm2 (by omega) (by omega) (by omega)
        have a1 := and127 x0 (by omega)
        by_cases h128 : 128 ≤ x
        · have hinv' := Lib.hid (hinv.out.more (by decide) hx.out h128)
          have hval : Hid (RdInv bs t (5 : Int).toNat (m + x % 128 * 268435456)) := by simpa [Hid] using hinv'.out
          clear hinv hinv' hm1 hx hm2
          go_wp2
          go_round
          case rel => exact ⟨5, _, by omega, by omega, rfl, rfl, hval⟩
          case measure => simp [intOf]
        · have hlast := Lib.hid (hinv.out.last (by decide) hx.out h128)
          have hmod : x % 128 = x := by omega
          rw [hmod] at o1 a1
          have hval : Hid (rdU bs t = if (x = 0 ∧ 0 < 4) ∨ 1000000000000 < m + x * 268435456 then none else some (m + x * 268435456, 5)) := by have := hlast.out; simpa [Hid] using this
          clear hinv hlast hm1 hx hmod
          by_cases hz : x = 0
          · have hno : Hid (rdU bs t = none) := by rw [hval.out, if_pos (.inl ⟨hz, by omega⟩)]; exact Lib.hid rfl
            have hz' : (x == 0) = true := by simp [hz]
            clear hval
            subst hz
            go_wp2
            go_ret3
            exact ⟨ret_tup (rdV_none hno.out), rfl⟩
          · have hz' : (x == 0) = false := by simp [hz]
            by_cases hbig : 1000000000000 < m + x * 268435456
            · have hno : Hid (rdU bs t = none) := by rw [hval.out, if_pos (.inr hbig)]; exact Lib.hid rfl
              clear hval hz
              go_wp2
              all_goals
                go_ret3
                exact ⟨ret_tup (rdV_none hno.out), rfl⟩
            · have hyes : Hid (rdU bs t = some (m + x * 268435456, 5)) := by rw [hval.out, if_neg (by rintro (⟨h1, _⟩ | h1); exact hz h1; exact hbig h1)]; exact Lib.hid rfl
              clear hval hz
              go_wp2
              go_ret3
              exact ⟨ret_tup (rdV_some hyes.out), rfl⟩
      · obtain ⟨b, o, x, rfl, hb', hx, hc⟩ := h.atY (k := t + 5) (by omega)
        have i9 : ¬ ((bs.length : Int) - 5 ≤ (t : Int)) := by omega
        obtain ⟨x0, x1⟩ := HB.out.get hx.out
        have hm2 : m < 34359738368 := by simpa using hm1
        have o1 := orI (n := m) (q := x % 128) (P := 34359738368) 35 (by decide) hm0 hm2 (by omega) (by omega) (by omega)
        have a1 := and127 x0 (by omega)
        by_cases h128 : 128 ≤ x
        · have hinv' := Lib.hid (hinv.out.more (by decide) hx.out h128)
          have hval : Hid (RdInv bs t (6 : Int).toNat (m + x % 128 * 34359738368)) := by simpa [Hid] using hinv'.out
          clear hinv hinv' hm1 hx hm2
          go_wp2
          go_round
          case rel => exact ⟨6, _, by omega, by omega, rfl, rfl, hval⟩
          case measure => simp [intOf]
        · have hlast := Lib.hid (hinv.out.last (by decide) hx.out h128)
          have hmod : x % 128 = x := by omega
          rw [hmod] at o1 a1
          have hval : Hid (rdU bs t = if (x = 0 ∧ 0 < 5) ∨ 1000000000000 < m + x * 34359738368 then none else some (m + x * 34359738368, 6)) := by have := hlast.out; simpa [Hid] using this
          clear hinv hlast hm1 hx hmod
          by_cases hz : x = 0
          · have hno : Hid (rdU bs t = none) := by rw [hval.out, if_pos (.inl ⟨hz, by omega⟩)]; exact Lib.hid rfl
            have hz' : (x == 0) = true := by simp [hz]
            clear hval
            subst hz
            go_wp2
            go_ret3
            exact ⟨ret_tup (rdV_none hno.out), rfl⟩
          · have hz' : (x == 0) = false := by simp [hz]
            by_cases hbig : 1000000000000 < m + x * 34359738368
            · have hno : Hid (rdU bs t = none) := by rw [hval.out, if_pos (.inr hbig)]; exact Lib.hid rfl
              clear hval hz
              go_wp2
              all_goals
                go_ret3
                exact ⟨ret_tup (rdV_none hno.out), rfl⟩
            · have hyes : Hid (rdU bs t = some (m + x * 34359738368, 6)) := by rw [hval.out, if_neg (by rintro (⟨h1, _⟩ | h1); exact hz h1; exact hbig h1)]; exact Lib.hid rfl
              clear hval hz
              go_wp2
              go_ret3
              exact ⟨ret_tup (rdV_some hyes.out), rfl⟩
    · have hend := Lib.hid (hinv.out.end_ (by omega))
      by_cases hk : k < 6
      · have htk : (bs.length : Int) - k ≤ (t : Int) := by omega
        clear hlt
        go_wp2
        go_ret3
        exact ⟨ret_tup (rdV_none hend.out), rfl⟩
      · clear hlt
        go_wp2
        go_ret3
        exact ⟨ret_tup (rdV_none hend.out), rfl⟩

theorem rdTo_le {b : List Int} {t k e : Nat} {l : List Int} (hb : AllB b) (ht : t ≤ b.length) (h : rdTo b t k = some (l, e)) : e ≤ b.length ∧ t ≤ e := by
  obtain ⟨_, _, h3, h4⟩ := rdTo_sound hb _ _ _ h
  have := congrArg List.length h3
  simp at this
  omega
theorem rdU_le {b : List Int} {t c : Nat} {n : Int} (hb : AllB b) (ht : t ≤ b.length) (h : rdU b t = some (n, c)) : t + c ≤ b.length ∧ 0 ≤ n ∧ n ≤ 1000000000000 := by
  obtain ⟨h1, h2, h3⟩ := rdU_sound hb h
  have h4 := congrArg List.length h2
  have h5 := inR_true.1 h1
  simp at h4
  exact ⟨by omega, h5.1, h5.2⟩

/-- A call hands back new integers, a number and a bool. -/
def NewI3 (w : World) (xs : List Int) (n : Int) (ok : Bool) (e : Ending) (w' : World) : Prop := ∃ a c, e = .returned (.tuple #[.slice a xs.length c, .int .i64 n, .bool ok]) ∧ OwnI w' w.heap.size a c xs ∧ Ext w w'
def NewY3 (w : World) (xs : List Int) (n : Int) (ok : Bool) (e : Ending) (w' : World) : Prop := ∃ a c, e = .returned (.tuple #[.slice a xs.length c, .int .i64 n, .bool ok]) ∧ OwnB w' w.heap.size a c xs ∧ Ext w w'

def decI (bs : List Int) (t k : Int) : Option (List Int × Nat) := if inR k 0 100 && inR t 0 bs.length then rdTo bs t.toNat k.toNat else none
def diL (bs : List Int) (t k : Int) : List Int := match decI bs t k with | none => [] | some p => p.1
def diE (bs : List Int) (t k : Int) : Int := match decI bs t k with | none => 0 | some p => (p.2 : Nat)
def diOk (bs : List Int) (t k : Int) : Bool := match decI bs t k with | none => false | some _ => true
theorem di_none {bs : List Int} {t k : Int} (h : decI bs t k = none) : diL bs t k = [] ∧ diE bs t k = 0 ∧ diOk bs t k = false := by simp [diL, diE, diOk, h]
theorem di_some {bs : List Int} {t k : Int} {l : List Int} {e : Nat} (h : decI bs t k = some (l, e)) : diL bs t k = l ∧ diE bs t k = (e : Nat) ∧ diOk bs t k = true := by simp [diL, diE, diOk, h]

set_option maxHeartbeats 4000000 in
theorem implDecodeInts_ok (a : Option Addr) (c : Nat) (bs : List Int) (t k : Int) (w : World) (h : Vals w a (Y bs)) (hb : AllB bs) (hl : bs.length ≤ 1048576) :
    Calls Try.prog 108 #[.slice a bs.length c, .int .i64 t, .int .i64 k] w (NewI3 w (diL bs t k) (diE bs t k) (diOk bs t k)) := by
  cases h1 : inR k 0 100
  · obtain ⟨d1, d2, d3⟩ := di_none (bs := bs) (t := t) (k := k) (by simp [decI, h1])
    rw [d1, d2, d3]
    clear d1 d2 d3
    go_enter Try.func108, Try.ntmps108
    go_wp2_with (go_at_call 96; refine (implInRange_ok _ _ _ _).mono ?_; rintro e w' ⟨rfl, rfl⟩; rw [h1])
    go_ret3
    exact ⟨none, 0, rfl, OwnI.nil _ _, Ext.refl _⟩
  cases h2 : inR t 0 bs.length
  · obtain ⟨d1, d2, d3⟩ := di_none (bs := bs) (t := t) (k := k) (by simp [decI, h2])
    rw [d1, d2, d3]
    clear d1 d2 d3
    go_enter Try.func108, Try.ntmps108
    go_wp2_with (go_at_call 96; refine (implInRange_ok _ _ _ _).mono ?_; rintro e w' ⟨rfl, rfl⟩; (first | rw [h1] | rw [h2]))
    go_ret3
    exact ⟨none, 0, rfl, OwnI.nil _ _, Ext.refl _⟩
  obtain ⟨k0, k1⟩ := inR_true.1 h1
  obtain ⟨t0, t1⟩ := inR_true.1 h2
  obtain ⟨k, rfl⟩ := Int.eq_ofNat_of_zero_le k0
  obtain ⟨t, rfl⟩ := Int.eq_ofNat_of_zero_le t0
  have HD : Hid (decI bs (t : Int) (k : Int) = rdTo bs t k) := by simp [decI, h1, h2, Hid]
  have HB := Lib.hid hb
  clear k0 t0 hb
  go_enter Try.func108, Try.ntmps108
  go_wp2_with (go_at_call 96; refine (implInRange_ok _ _ _ _).mono ?_; rintro e w' ⟨rfl, rfl⟩; (first | rw [h1] | rw [h2]))
  go_loopw [1, 9, 24] (fun s v i wr => ∃ (j e : Nat) (a1 : Option Addr) (c1 : Nat) (l : List Int), j ≤ k ∧ i = .int .i64 j ∧ s = .int .i64 (e : Nat) ∧ v = .slice a1 l.length c1 ∧ Hid (rdTo bs t j = some (l, e)) ∧ e ≤ bs.length ∧ l.length ≤ j ∧ OwnI wr w.heap.size a1 c1 l ∧ Ext w wr) (fun _ _ i _ => k - (intOf i).toNat)
  case atStart => exact ⟨0, t, none, 0, [], Nat.zero_le _, rfl, rfl, rfl, rfl, by omega, Nat.le_refl _, OwnI.nil _ _, Ext.refl _⟩
  case round =>
    obtain ⟨j, e, a1, c1, l, hj, rfl, rfl, rfl, hrd, hel, hll, ho, he⟩ := hrel
    by_cases hlt : j < k
    · have CC := implReadUvarint_ok a c bs e wr (h.ext he) HB.out hl (by omega)
      cases hu : rdU bs e with
      | none =>
        rw [rdV_none hu] at CC
        have C1 := Lib.hid CC
        obtain ⟨d1, d2, d3⟩ := di_none (bs := bs) (t := (t : Int)) (k := (k : Int)) (by rw [HD.out]; exact rdTo_none (rdTo_fail hrd.out hu) (by omega))
        have D := Lib.hid (And.intro d1 (And.intro d2 d3))
        clear CC hu d1 d2 d3
        go_wp2_with (go_at_call 151; (with_reducible refine C1.out.mono ?_); rintro e w' ⟨rfl, rfl⟩)
        go_ret3
        rw [D.out.1, D.out.2.1, D.out.2.2]
        exact ⟨none, 0, rfl, OwnI.nil _ _, he⟩
      | some p =>
        obtain ⟨n, q⟩ := p
        rw [rdV_some hu] at CC
        have C1 := Lib.hid CC
        obtain ⟨u1, u2, u3⟩ := rdU_le HB.out hel hu
        have hrd' := Lib.hid (rdTo_succ hrd.out hu)
        obtain ⟨l2, hl2⟩ : ∃ l2, Hid (l2 = l ++ [n]) := ⟨_, rfl⟩
        rw [← hl2.out] at hrd'
        have hl3 : l2.length ≤ j + 1 := by rw [hl2.out, List.length_append, List.length_singleton]; omega
        clear CC hu hrd
        go_wp2_with (first
          | (go_at_call 151; (with_reducible refine C1.out.mono ?_); rintro e w' ⟨rfl, rfl⟩)
          | (at_builtin; refine wpList_appI _ rfl _ _ rfl w.heap.size _ _ l rfl (ho.ext ((Ext.refl wr).alloc _)) _ _ [n] rfl (Vals.new wr [.int .i64 n] _) l2 hl2.out (by simp; omega) (by have := he.size_le; simp; omega) ?_))
        intro a3 c3 w3 o3 g3 _
        have e3 := (he.alloc (.cells (I [n]).toArray 3)).grown g3 (fun k hk => (ho.block k hk).1)
        clear g3 ho he
        go_wp2_with fail
        go_roundw
        case rel => exact ⟨j + 1, e + q, a3, c3, l2, by omega, by go_num, rfl, rfl, hrd', u1, hl3, o3, e3⟩
        case measure => simp [intOf]; omega
    · obtain rfl : j = k := by omega
      obtain ⟨d1, d2, d3⟩ := di_some (bs := bs) (t := (t : Int)) (k := (j : Int)) (by rw [HD.out]; exact hrd.out)
      have D := Lib.hid (And.intro d1 (And.intro d2 d3))
      clear d1 d2 d3
      go_wp2_with fail
      go_ret3
      rw [D.out.1, D.out.2.1, D.out.2.2]
      exact ⟨a1, c1, rfl, ho, he⟩

end Go.Proofs.Ytkegknophppdgaa
