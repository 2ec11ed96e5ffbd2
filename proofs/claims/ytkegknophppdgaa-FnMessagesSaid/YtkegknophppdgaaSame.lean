/- Contracts of the laws' own helpers: big, at, contains, sameInts, sameBytes, sameRows. -/
import Derived.Test.YtkegknophppdgaaBytes
import Derived.Deep.QuietTactic
import Derived.BigQuiet
namespace Go.Proofs.Ytkegknophppdgaa
open Go.RowKit
set_option linter.unusedVariables false
set_option maxRecDepth 20000

set_option maxHeartbeats 400000 in
theorem sameInts_ok (a b : Option Addr) (c d : Nat) (xs ys : List Int) (w : World) (h : Vals w a (I xs)) (h' : Vals w b (I ys)) (hl : xs.length ≤ 1099511627776) :
    Calls Try.prog 71 #[.slice a xs.length c, .slice b ys.length d] w (Quiet w (.bool (decide (xs = ys)))) := by
  by_cases hn : xs.length = ys.length
  · have hnn : ((xs.length : Int) != (ys.length : Int)) = false := by simp [hn]
    have HN := Lib.hid hn
    clear hn
    go_enter Try.func71, Try.ntmps71
    go_wp2
    go_loopw [5] (fun i wr => ∃ k : Nat, k ≤ xs.length ∧ i = .int .i64 k ∧ xs.take k = ys.take k ∧ Dr w wr) (fun i _ => xs.length - (intOf i).toNat)
    case atStart => exact ⟨0, Nat.zero_le _, rfl, rfl, Dr.refl _⟩
    case round =>
      obtain ⟨k, hk, rfl, htk, he⟩ := hrel
      have HT := Lib.hid htk
      clear htk
      by_cases hlt : k < xs.length
      · obtain ⟨b1, o1, x, rfl, hb, hx, hc⟩ := (h.ext he.ext).atI hlt
        have hlt' : k < ys.length := by have := HN.out; omega
        obtain ⟨b2, o2, y, rfl, hb', hy, hc'⟩ := (h'.ext he.ext).atI hlt'
        have i1 : (0 : Int) ≤ (k : Int) := by omega
        have i2 : (k : Int) < (xs.length : Int) := by omega
        have i3 : (k : Int) < (ys.length : Int) := by omega
        go_wp2
        go_quiet (fail)
        go_wp2
        · go_ret
          exact ⟨ret_bool (decide_eq_false (take_ne hx.out hy.out (by simpa using (‹(x != y) = true› : (x != y) = true)))).symm, he.drewN _⟩
        · exact ⟨⟨k + 1, by omega, by go_num, take_eq hx.out hy.out HT.out (by simpa using (‹(x != y) = false› : (x != y) = false)), he.drewN _⟩, by simp [intOf]; omega⟩
      · go_wp2
        go_ret
        refine ⟨ret_bool (decide_eq_true ?_).symm, he⟩
        have := HT.out
        rwa [List.take_of_length_le (by omega), List.take_of_length_le (by have := HN.out; omega)] at this
  · have hnn : ((xs.length : Int) != (ys.length : Int)) = true := by simp; omega
    go_enter Try.func71, Try.ntmps71
    go_wp2
    go_ret
    exact ⟨ret_bool (decide_eq_false (fun e => hn (by rw [e]))).symm, Dr.refl _⟩

set_option maxHeartbeats 400000 in
theorem sameBytes_ok (a b : Option Addr) (c d : Nat) (xs ys : List Int) (w : World) (h : Vals w a (Y xs)) (h' : Vals w b (Y ys)) (hl : xs.length ≤ 1099511627776) :
    Calls Try.prog 59 #[.slice a xs.length c, .slice b ys.length d] w (Quiet w (.bool (decide (xs = ys)))) := by
  by_cases hn : xs.length = ys.length
  · have hnn : ((xs.length : Int) != (ys.length : Int)) = false := by simp [hn]
    have HN := Lib.hid hn
    clear hn
    go_enter Try.func59, Try.ntmps59
    go_wp2
    go_loopw [5] (fun i wr => ∃ k : Nat, k ≤ xs.length ∧ i = .int .i64 k ∧ xs.take k = ys.take k ∧ Dr w wr) (fun i _ => xs.length - (intOf i).toNat)
    case atStart => exact ⟨0, Nat.zero_le _, rfl, rfl, Dr.refl _⟩
    case round =>
      obtain ⟨k, hk, rfl, htk, he⟩ := hrel
      have HT := Lib.hid htk
      clear htk
      by_cases hlt : k < xs.length
      · obtain ⟨b1, o1, x, rfl, hb, hx, hc⟩ := (h.ext he.ext).atY hlt
        have hlt' : k < ys.length := by have := HN.out; omega
        obtain ⟨b2, o2, y, rfl, hb', hy, hc'⟩ := (h'.ext he.ext).atY hlt'
        have i1 : (0 : Int) ≤ (k : Int) := by omega
        have i2 : (k : Int) < (xs.length : Int) := by omega
        have i3 : (k : Int) < (ys.length : Int) := by omega
        go_wp2
        go_quiet (fail)
        go_wp2
        · go_ret
          exact ⟨ret_bool (decide_eq_false (take_ne hx.out hy.out (by simpa using (‹(x != y) = true› : (x != y) = true)))).symm, he.drewN _⟩
        · exact ⟨⟨k + 1, by omega, by go_num, take_eq hx.out hy.out HT.out (by simpa using (‹(x != y) = false› : (x != y) = false)), he.drewN _⟩, by simp [intOf]; omega⟩
      · go_wp2
        go_ret
        refine ⟨ret_bool (decide_eq_true ?_).symm, he⟩
        have := HT.out
        rwa [List.take_of_length_le (by omega), List.take_of_length_le (by have := HN.out; omega)] at this
  · have hnn : ((xs.length : Int) != (ys.length : Int)) = true := by simp; omega
    go_enter Try.func59, Try.ntmps59
    go_wp2
    go_ret
    exact ⟨ret_bool (decide_eq_false (fun e => hn (by rw [e]))).symm, Dr.refl _⟩

set_option maxHeartbeats 400000 in
theorem sameRows_ok (a b : Option Addr) (c d : Nat) (xss yss : List (List Int)) (w : World) (h : MatR w a xss) (h' : MatR w b yss) (hl : xss.length ≤ 1099511627776) (hr : ∀ xs ∈ xss, xs.length ≤ 1099511627776) :
    Calls Try.prog 76 #[.slice a xss.length c, .slice b yss.length d] w (Quiet w (.bool (decide (xss = yss)))) := by
  have HR := Lib.hid hr
  clear hr
  by_cases hn : xss.length = yss.length
  · have hnn : ((xss.length : Int) != (yss.length : Int)) = false := by simp [hn]
    have HN := Lib.hid hn
    clear hn
    go_enter Try.func76, Try.ntmps76
    go_wp2
    go_loopw [5] (fun i wr => ∃ k : Nat, k ≤ xss.length ∧ i = .int .i64 k ∧ xss.take k = yss.take k ∧ Dr w wr) (fun i _ => xss.length - (intOf i).toNat)
    case atStart => exact ⟨0, Nat.zero_le _, rfl, rfl, Dr.refl _⟩
    case round =>
      obtain ⟨k, hk, rfl, htk, he⟩ := hrel
      have HT := Lib.hid htk
      clear htk
      by_cases hlt : k < xss.length
      · obtain ⟨b1, o1, ra, rc, xs, rfl, hb, hx, hc, hv⟩ := (h.ext he.ext).at_ hlt
        have hlt' : k < yss.length := by have := HN.out; omega
        obtain ⟨b2, o2, ra', rc', ys, rfl, hb', hy, hc', hv'⟩ := (h'.ext he.ext).at_ hlt'
        have hxm := HR.out xs (List.mem_of_getElem? hx.out)
        have i1 : (0 : Int) ≤ (k : Int) := by omega
        have i2 : (k : Int) < (xss.length : Int) := by omega
        have i3 : (k : Int) < (yss.length : Int) := by omega
        have q := fun n : Nat => sameInts_ok ra ra' rc rc' xs ys (wr.drewN n) (hv.ext ((Ext.refl wr).drewN n)) (hv'.ext ((Ext.refl wr).drewN n)) hxm
        have Q := Lib.hid q
        clear q
        cases hq : decide (xs = ys)
        · rw [hq] at Q
          have HQ := Lib.hid (of_decide_eq_false hq)
          clear hq
          go_wp2
          go_quiet ((go_at_call 71; exact Calls.quiet (Q.out _)))
          go_wp2
          go_ret
          exact ⟨ret_bool (decide_eq_false (fun e => HQ.out (by have h1 := hx.out; have h2 := hy.out; rw [e, h2] at h1; injection h1 with h1; exact h1.symm))).symm, he.drewN _⟩
        · rw [hq] at Q
          have HQ := Lib.hid (of_decide_eq_true hq)
          clear hq
          go_wp2
          go_quiet ((go_at_call 71; exact Calls.quiet (Q.out _)))
          go_wp2
          exact ⟨⟨k + 1, by omega, by go_num, by rw [List.take_add_one, List.take_add_one, hx.out, hy.out, HT.out, HQ.out], he.drewN _⟩, by simp [intOf]; omega⟩
      · go_wp2
        go_ret
        refine ⟨ret_bool (decide_eq_true ?_).symm, he⟩
        have := HT.out
        rwa [List.take_of_length_le (by omega), List.take_of_length_le (by have := HN.out; omega)] at this
  · have hnn : ((xss.length : Int) != (yss.length : Int)) = true := by simp; omega
    go_enter Try.func76, Try.ntmps76
    go_wp2
    go_ret
    exact ⟨ret_bool (decide_eq_false (fun e => hn (by rw [e]))).symm, Dr.refl _⟩

theorem big_no (a : Option Addr) (c : Nat) (xs : List Int) (w : World) (hl : xs.length ≤ 1048576) :
    Calls Try.prog 57 #[.slice a xs.length c] w fun e w' => e = .returned (.bool false) ∧ w = w' := by
  have h : decide ((1048576 : Int) < (xs.length : Int)) = false := decide_eq_false (by omega)
  go_enter Try.func57, Try.ntmps57
  go_wp2
  go_ret
  simp

theorem big_yes (a : Option Addr) (c : Nat) (xs : List Int) (w : World) (hl : ¬ xs.length ≤ 1048576) (hm : xs.length ≤ maxLen) :
    Calls Try.prog 57 #[.slice a xs.length c] w fun e w' => e = .returned (.bool true) ∧ w = w' := by
  have h : decide ((1048576 : Int) < (xs.length : Int)) = true := decide_eq_true (by omega)
  unfold maxLen at hm
  go_enter Try.func57, Try.ntmps57
  go_wp2
  go_ret
  simp

theorem at_ok (a : Option Addr) (c : Nat) (bs : List Int) (k : Nat) (w : World) (h : Vals w a (Y bs)) (hb : ∀ x ∈ bs, 0 ≤ x ∧ x ≤ 255) (hl : bs.length ≤ 1048576) (hk : k ≤ 100000) :
    Calls Try.prog 68 #[.slice a bs.length c, .int .i64 k] w fun e w' => ∃ x : Int, e = .returned (.int .i64 x) ∧ 0 ≤ x ∧ x ≤ 255 ∧ w = w' := by
  by_cases hlt : k < bs.length
  · obtain ⟨b, o, x, rfl, hbs, hx, hcx⟩ := h.atY hlt
    obtain ⟨x0, x1⟩ := hb x (List.mem_of_getElem? hx.out)
    have i1 : (k : Int) < (bs.length : Int) := by omega
    go_enter Try.func68, Try.ntmps68
    go_wp2
    go_ret
    exact ⟨_, rfl, x0, x1, rfl⟩
  · have i1 : ¬ (k : Int) < (bs.length : Int) := by omega
    go_enter Try.func68, Try.ntmps68
    go_wp2
    go_ret
    refine ⟨_, rfl, ?_, ?_, rfl⟩ <;> omega

end Go.Proofs.Ytkegknophppdgaa
