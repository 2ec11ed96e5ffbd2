/- Contracts of small functions over slices of integers: toIntS, eqIntS, CountNonzero, DensityPercent. -/
import Derived.Test.YtkegknophppdgaaNum
import Derived.Test.YtkegknophppdgaaMem
import Derived.Deep.QuietTactic
import Derived.BigQuiet
namespace Go.Proofs.Ytkegknophppdgaa
open Go.RowKit
set_option linter.unusedVariables false
set_option maxRecDepth 20000

theorem int_eq {k : IntKind} {a b : Int} (h : a = b) : Value.int k a = .int k b := by rw [h]
theorem ret_int {k : IntKind} {a b : Int} (h : a = b) : Ending.returned (.int k a) = .returned (.int k b) := by rw [h]
theorem ret_bool {a b : Bool} (h : a = b) : Ending.returned (.bool a) = .returned (.bool b) := by rw [h]

def cnz (xs : List Int) : Nat := (xs.filter (fun x => x != 0)).length
theorem cnz_le (xs : List Int) : cnz xs ≤ xs.length := List.length_filter_le _ _
theorem cnz_yes {xs : List Int} {k : Nat} {x : Int} (h : xs[k]? = some x) (h0 : (x != 0) = true) : cnz (xs.take (k + 1)) = cnz (xs.take k) + 1 := by
  rw [List.take_add_one, h]
  simp [cnz, List.filter_append, h0]
theorem cnz_no {xs : List Int} {k : Nat} {x : Int} (h : xs[k]? = some x) (h0 : (x != 0) = false) : cnz (xs.take (k + 1)) = cnz (xs.take k) := by
  rw [List.take_add_one, h]
  simp [cnz, List.filter_append, h0]

set_option maxHeartbeats 400000 in
theorem implCountNonzero_ok (a : Option Addr) (c : Nat) (xs : List Int) (w : World) (h : Vals w a (I xs)) (hl : xs.length ≤ 1048576) :
    Calls Try.prog 91 #[.slice a xs.length c] w fun e w' => e = .returned (.int .i64 (cnz xs)) ∧ w = w' := by
  go_enter Try.func91, Try.ntmps91
  go_wp2
  go_loop [3, 8] (fun n i => ∃ k : Nat, k ≤ xs.length ∧ i = .int .i64 k ∧ n = .int .i64 (cnz (xs.take k))) (fun _ i => xs.length - (intOf i).toNat)
  case atStart => exact ⟨0, Nat.zero_le _, rfl, rfl⟩
  case round =>
    obtain ⟨k, hk, rfl, rfl⟩ := hrel
    have hcl := cnz_le (xs.take k)
    have hll : (xs.take k).length ≤ k := List.length_take_le _ _
    by_cases hlt : k < xs.length
    · obtain ⟨b, o, x, rfl, hb, hx, hc⟩ := h.atI hlt
      go_wp2
      all_goals
        go_round
        case rel => exact ⟨k + 1, by omega, by go_num, by first | rw [cnz_yes hx.out ‹_›]; go_num | rw [cnz_no hx.out ‹_›]⟩
        case measure => simp [intOf]; omega
    · have e : xs.take k = xs := List.take_of_length_le (by omega)
      have E := Lib.hid e
      clear e
      go_wp2
      go_ret
      exact ⟨ret_int (by rw [E.out]), rfl⟩

set_option maxHeartbeats 400000 in
theorem specCountNonzero_ok (a : Option Addr) (c : Nat) (xs : List Int) (w : World) (h : Vals w a (I xs)) (hl : xs.length ≤ 1048576) :
    Calls Try.prog 168 #[.slice a xs.length c] w fun e w' => e = .returned (.int .i64 (cnz xs)) ∧ w = w' := by
  go_enter Try.func168, Try.ntmps168
  go_wp2
  go_loop [3, 4] (fun n i => ∃ k : Nat, k ≤ xs.length ∧ i = .int .i64 k ∧ n = .int .i64 (cnz (xs.take k))) (fun _ i => xs.length - (intOf i).toNat)
  case atStart => exact ⟨0, Nat.zero_le _, rfl, rfl⟩
  case round =>
    obtain ⟨k, hk, rfl, rfl⟩ := hrel
    have hcl := cnz_le (xs.take k)
    have hll : (xs.take k).length ≤ k := List.length_take_le _ _
    by_cases hlt : k < xs.length
    · obtain ⟨b, o, x, rfl, hb, hx, hc⟩ := h.atI hlt
      go_wp2
      all_goals
        go_round
        case rel => exact ⟨k + 1, by omega, by go_num, by first | rw [cnz_yes hx.out ‹_›]; go_num | rw [cnz_no hx.out ‹_›]⟩
        case measure => simp [intOf]; omega
    · have e : xs.take k = xs := List.take_of_length_le (by omega)
      have E := Lib.hid e
      clear e
      go_wp2
      go_ret
      exact ⟨ret_int (by rw [E.out]), rfl⟩

def density (xs : List Int) : Int := ceilDiv (100 * (cnz xs : Int)) xs.length

theorem implDensityPercent_ok (a : Option Addr) (c : Nat) (xs : List Int) (w : World) (h : Vals w a (I xs)) (hl : xs.length ≤ 1048576) :
    Calls Try.prog 90 #[.slice a xs.length c] w fun e w' => e = .returned (.int .i64 (density xs)) ∧ w = w' := by
  have hcl := cnz_le xs
  go_enter Try.func90, Try.ntmps90
  go_wp2_with (first | (go_at_call 91; refine (implCountNonzero_ok _ _ _ _ h hl).mono ?_; rintro e w' ⟨rfl, rfl⟩) | (go_at_call 146; refine (implCeilDiv_ok _ _ _).mono ?_; rintro e w' ⟨rfl, rfl⟩))
  go_ret
  exact ⟨rfl, rfl⟩

theorem fill_set (f : Int → Value) {xs : List Int} {k : Nat} {x : Int} (h : xs[k]? = some x) (z : Value) :
    ((xs.take k).map f ++ List.replicate (xs.length - k) z).set k (f x) = (xs.take (k + 1)).map f ++ List.replicate (xs.length - (k + 1)) z := by
  have hk : k < xs.length := (List.getElem?_eq_some_iff.1 h).1
  obtain ⟨m, hm⟩ : ∃ m, xs.length - k = m + 1 := ⟨xs.length - k - 1, by omega⟩
  have hl : ((xs.take k).map f).length = k := by simp; omega
  rw [List.set_append_right _ _ (by omega), hl, Nat.sub_self, hm, List.replicate_succ, List.set_cons_zero, show xs.length - (k + 1) = m by omega, List.take_add_one, h]
  simp

theorem fill_get (f : Int → Value) {xs : List Int} {k : Nat} (hk : k < xs.length) (z : Value) :
    ((xs.take k).map f ++ List.replicate (xs.length - k) z)[k]? = some z := by
  have hl : ((xs.take k).map f).length = k := by simp; omega
  rw [List.getElem?_append_right (by omega), hl, Nat.sub_self, List.getElem?_replicate, if_pos (by omega)]

set_option maxHeartbeats 400000 in
theorem toIntS_ok (a : Option Addr) (c : Nat) (xs : List Int) (w : World) (h : Vals w a (I xs)) (hl : xs.length ≤ 1048576) :
    Calls Try.prog 26 #[.slice a xs.length c] w (NewI w xs) := by
  obtain ⟨i, hi, hz0, hz1, hz2⟩ := info_parts infoInt
  go_enter Try.func26, Try.ntmps26
  go_wp2_with (at_make; refine wpList_make_full _ rfl _ _ 32 rfl w.heap.size 3 i (.int .i64 0) 1 Try.underlying32 hi hz0 hz1 _ _ _ _ xs.length rfl rfl rfl rfl ?b1 ?b2 (Nat.le_refl _) ?_)
  case b1 => rw [hz2]; omega
  case b2 => unfold maxLen; omega
  intro w1 hown hgrow
  have hown0 : w1.ownsRow w.heap.size 3 1 (.slice (some ⟨w.heap.size, 0, none⟩) xs.length xs.length) xs.length ((xs.take 0).map (Value.int .i64) ++ List.replicate (xs.length - 0) (.int .i64 0)) := by
    simpa [Value.cells, toList_madeCells_one] using hown
  have he := (Ext.refl w).grown hgrow (by simp)
  clear hown hgrow
  go_wp2
  go_loopw [4] (fun i wr => ∃ k : Nat, k ≤ xs.length ∧ i = .int .i64 k ∧ wr.ownsRow w.heap.size 3 1 (.slice (some ⟨w.heap.size, 0, none⟩) xs.length xs.length) xs.length ((xs.take k).map (Value.int .i64) ++ List.replicate (xs.length - k) (.int .i64 0)) ∧ Ext w wr) (fun i _ => xs.length - (intOf i).toNat)
  case atStart => exact ⟨0, Nat.zero_le _, rfl, hown0, he⟩
  case round =>
    clear hown0 he
    obtain ⟨k, hk, rfl, hown, he⟩ := hrel
    by_cases hlt : k < xs.length
    · obtain ⟨b, o, x, rfl, hb, hx, hc⟩ := (h.ext he).atI hlt
      have hco : wr.cell? ⟨w.heap.size, k, none⟩ = some (.int .i64 0) := by
        rw [hown.cellAt k (by omega), fill_get _ hlt]
      have hfo := hown.frozenAt k
      have hst := (hown.stored k (.int .i64 x)).1
      rw [fill_set _ hx.out] at hst
      have he' := he.setCell (p := ⟨w.heap.size, k, none⟩) (Nat.le_refl _) (.int .i64 x)
      clear hown he
      go_wp2
      go_roundw
      case rel => exact ⟨k + 1, by omega, by go_num, hst, he'⟩
      case measure => simp [intOf]; omega
    · have E : Hid (xs.take k = xs) := List.take_of_length_le (by omega)
      rw [E.out, show xs.length - k = 0 by omega, List.replicate_zero, List.append_nil] at hown
      go_wp2
      go_ret
      exact ⟨_, _, rfl, hown, he⟩

theorem take_ne {xs ys : List Int} {k : Nat} {x y : Int} (hx : xs[k]? = some x) (hy : ys[k]? = some y) (h : x ≠ y) : ¬ xs = ys := by
  rintro rfl
  rw [hx] at hy
  exact h (by injection hy)
theorem take_eq {xs ys : List Int} {k : Nat} {x y : Int} (hx : xs[k]? = some x) (hy : ys[k]? = some y) (ht : xs.take k = ys.take k) (h : x = y) : xs.take (k + 1) = ys.take (k + 1) := by
  rw [List.take_add_one, List.take_add_one, hx, hy, ht, h]

theorem Calls.quiet {P : Program} {f : FuncId} {args : Array Value} {w : World} {n : Nat} {v : Value} (h : Calls P f args (w.drewN n) (Quiet (w.drewN n) v)) :
    Calls P f args (w.drewN n) fun e w'' => e = .returned v ∧ ∃ m, w'' = w.drewN m := Calls.quiet_of h

set_option maxHeartbeats 400000 in
theorem eqIntS_ok (a b : Option Addr) (c d : Nat) (xs ys : List Int) (w : World) (h : Vals w a (I xs)) (h' : Vals w b (I ys)) (hl : xs.length ≤ 1099511627776) :
    Calls Try.prog 30 #[.slice a xs.length c, .slice b ys.length d] w (Quiet w (.bool (decide (xs = ys)))) := by
  by_cases hn : xs.length = ys.length
  · have hnn : ((xs.length : Int) != (ys.length : Int)) = false := by simp [hn]
    have HN := Lib.hid hn
    clear hn
    go_enter Try.func30, Try.ntmps30
    go_wp2
    go_loopw [5] (fun i wr => ∃ k : Nat, k ≤ xs.length ∧ i = .int .i64 k ∧ xs.take k = ys.take k ∧ Dr w wr) (fun i _ => xs.length - (intOf i).toNat)
    case atStart => exact ⟨0, Nat.zero_le _, rfl, rfl, Dr.refl _⟩
    case round =>
      obtain ⟨k, hk, rfl, htk, he⟩ := hrel
      have HT := Lib.hid htk
      clear htk
      by_cases hlt : k < xs.length
      · obtain ⟨b1, o1, x, rfl, hb, hx, hc⟩ := (h.ext he.ext).atI hlt
        have hlt' : k < ys.length := by have := HN.out; omega
        obtain ⟨b2, o2, y, rfl, hb', hy, hc'⟩ := (h'.ext he.ext).atI hlt'
        have i1 : (0 : Int) ≤ (k : Int) := by omega
        have i2 : (k : Int) < (xs.length : Int) := by omega
        have i3 : (k : Int) < (ys.length : Int) := by omega
        go_wp2
        go_quiet (fail)
        go_wp2
        · go_ret
          exact ⟨ret_bool (decide_eq_false (take_ne hx.out hy.out (by simpa using (‹(x != y) = true› : (x != y) = true)))).symm, he.drewN _⟩
        · exact ⟨⟨k + 1, by omega, by go_num, take_eq hx.out hy.out HT.out (by simpa using (‹(x != y) = false› : (x != y) = false)), he.drewN _⟩, by simp [intOf]; omega⟩
      · go_wp2
        go_ret
        refine ⟨ret_bool (decide_eq_true ?_).symm, he⟩
        have := HT.out
        rwa [List.take_of_length_le (by omega), List.take_of_length_le (by have := HN.out; omega)] at this
  · have hnn : ((xs.length : Int) != (ys.length : Int)) = true := by simp; omega
    go_enter Try.func30, Try.ntmps30
    go_wp2
    go_ret
    exact ⟨ret_bool (decide_eq_false (fun e => hn (by rw [e]))).symm, Dr.refl _⟩

set_option maxHeartbeats 400000 in
theorem specEqualInts_ok (a b : Option Addr) (c d : Nat) (xs ys : List Int) (w : World) (h : Vals w a (I xs)) (h' : Vals w b (I ys)) (hl : xs.length ≤ 1099511627776) :
    Calls Try.prog 153 #[.slice a xs.length c, .slice b ys.length d] w (Quiet w (.bool (decide (xs = ys)))) := by
  by_cases hn : xs.length = ys.length
  · have hnn : ((xs.length : Int) != (ys.length : Int)) = false := by simp [hn]
    have HN := Lib.hid hn
    clear hn
    go_enter Try.func153, Try.ntmps153
    go_wp2
    go_loopw [5] (fun i wr => ∃ k : Nat, k ≤ xs.length ∧ i = .int .i64 k ∧ xs.take k = ys.take k ∧ Dr w wr) (fun i _ => xs.length - (intOf i).toNat)
    case atStart => exact ⟨0, Nat.zero_le _, rfl, rfl, Dr.refl _⟩
    case round =>
      obtain ⟨k, hk, rfl, htk, he⟩ := hrel
      have HT := Lib.hid htk
      clear htk
      by_cases hlt : k < xs.length
      · obtain ⟨b1, o1, x, rfl, hb, hx, hc⟩ := (h.ext he.ext).atI hlt
        have hlt' : k < ys.length := by have := HN.out; omega
        obtain ⟨b2, o2, y, rfl, hb', hy, hc'⟩ := (h'.ext he.ext).atI hlt'
        have i1 : (0 : Int) ≤ (k : Int) := by omega
        have i2 : (k : Int) < (xs.length : Int) := by omega
        have i3 : (k : Int) < (ys.length : Int) := by omega
        go_wp2
        go_quiet (fail)
        go_wp2
        · go_ret
          exact ⟨ret_bool (decide_eq_false (take_ne hx.out hy.out (by simpa using (‹(x != y) = true› : (x != y) = true)))).symm, he.drewN _⟩
        · exact ⟨⟨k + 1, by omega, by go_num, take_eq hx.out hy.out HT.out (by simpa using (‹(x != y) = false› : (x != y) = false)), he.drewN _⟩, by simp [intOf]; omega⟩
      · go_wp2
        go_ret
        refine ⟨ret_bool (decide_eq_true ?_).symm, he⟩
        have := HT.out
        rwa [List.take_of_length_le (by omega), List.take_of_length_le (by have := HN.out; omega)] at this
  · have hnn : ((xs.length : Int) != (ys.length : Int)) = true := by simp; omega
    go_enter Try.func153, Try.ntmps153
    go_wp2
    go_ret
    exact ⟨ret_bool (decide_eq_false (fun e => hn (by rw [e]))).symm, Dr.refl _⟩

set_option maxHeartbeats 400000 in
theorem slicesEqual_ok (a b : Option Addr) (c d : Nat) (xs ys : List Int) (w : World) (h : Vals w a (I xs)) (h' : Vals w b (I ys)) (hl : xs.length ≤ 1099511627776) :
    Calls Try.prog 157 #[.slice a xs.length c, .slice b ys.length d] w (Quiet w (.bool (decide (xs = ys)))) := by
  by_cases hn : xs.length = ys.length
  · have hnn : ((xs.length : Int) != (ys.length : Int)) = false := by simp [hn]
    have HN := Lib.hid hn
    clear hn
    go_enter Try.func157, Try.ntmps157
    go_wp2
    go_loopw [13] (fun i wr => ∃ k : Nat, k ≤ xs.length ∧ i = .int .i64 k ∧ xs.take k = ys.take k ∧ Dr w wr) (fun i _ => xs.length - (intOf i).toNat)
    case atStart => exact ⟨0, Nat.zero_le _, rfl, rfl, Dr.refl _⟩
    case round =>
      obtain ⟨k, hk, rfl, htk, he⟩ := hrel
      have HT := Lib.hid htk
      clear htk
      by_cases hlt : k < xs.length
      · obtain ⟨b1, o1, x, rfl, hb, hx, hc⟩ := (h.ext he.ext).atI hlt
        have hlt' : k < ys.length := by have := HN.out; omega
        obtain ⟨b2, o2, y, rfl, hb', hy, hc'⟩ := (h'.ext he.ext).atI hlt'
        have i1 : (0 : Int) ≤ (k : Int) := by omega
        have i2 : (k : Int) < (xs.length : Int) := by omega
        have i3 : (k : Int) < (ys.length : Int) := by omega
        go_wp2
        go_quiet (fail)
        go_wp2
        · go_ret
          exact ⟨ret_bool (decide_eq_false (take_ne hx.out hy.out (by simpa using (‹(x != y) = true› : (x != y) = true)))).symm, he.drewN _⟩
        · exact ⟨⟨k + 1, by omega, by go_num, take_eq hx.out hy.out HT.out (by simpa using (‹(x != y) = false› : (x != y) = false)), he.drewN _⟩, by simp [intOf]; omega⟩
      · go_wp2
        go_ret
        refine ⟨ret_bool (decide_eq_true ?_).symm, he⟩
        have := HT.out
        rwa [List.take_of_length_le (by omega), List.take_of_length_le (by have := HN.out; omega)] at this
  · have hnn : ((xs.length : Int) != (ys.length : Int)) = true := by simp; omega
    go_enter Try.func157, Try.ntmps157
    go_wp2
    go_ret
    exact ⟨ret_bool (decide_eq_false (fun e => hn (by rw [e]))).symm, Dr.refl _⟩

theorem implIsElement_ok (x : Int) (w : World) :
    Calls Try.prog 158 #[.int .i64 x] w fun e w' => e = .returned (.bool (inR x 0 1018)) ∧ w = w' := by
  go_enter Try.func158, Try.ntmps158
  go_wp2_with (go_at_call 96; refine (implInRange_ok _ _ _ _).mono ?_; rintro e w' ⟨rfl, rfl⟩)
  go_ret
  exact ⟨rfl, rfl⟩

theorem specIsElement_ok (x : Int) (w : World) :
    Calls Try.prog 128 #[.int .i64 x] w fun e w' => e = .returned (.bool (inR x 0 1018)) ∧ w = w' := by
  go_enter Try.func128, Try.ntmps128
  go_wp2_with (go_at_call 94; refine (specInRange_ok _ _ _ _).mono ?_; rintro e w' ⟨rfl, rfl⟩)
  go_ret
  exact ⟨rfl, rfl⟩

set_option maxHeartbeats 400000 in
theorem implIsValidVector_ok (a : Option Addr) (c : Nat) (xs : List Int) (w : World) (h : Vals w a (I xs)) (hl : xs.length ≤ 1099511627776) :
    Calls Try.prog 120 #[.slice a xs.length c] w fun e w' => e = .returned (.bool (validV xs)) ∧ w = w' := by
  go_enter Try.func120, Try.ntmps120
  go_wp2
  go_loop [7] (fun i => ∃ k : Nat, k ≤ xs.length ∧ i = .int .i64 k ∧ AllEl (xs.take k)) (fun i => xs.length - (intOf i).toNat)
  case atStart => exact ⟨0, Nat.zero_le _, rfl, fun _ h => by simp at h⟩
  case round =>
    obtain ⟨k, hk, rfl, hall⟩ := hrel
    by_cases hlt : k < xs.length
    · obtain ⟨b, o, x, rfl, hb, hx, hc⟩ := h.atI hlt
      cases hin : inR x 0 1018
      · go_wp2_with (go_at_call 158; refine (implIsElement_ok _ _).mono ?_; rintro e w' ⟨rfl, rfl⟩)
        go_ret
        exact ⟨ret_bool (AllEl.no hx.out hin).symm, rfl⟩
      · go_wp2_with (go_at_call 158; refine (implIsElement_ok _ _).mono ?_; rintro e w' ⟨rfl, rfl⟩)
        go_round
        case rel => exact ⟨k + 1, by omega, by go_num, hall.snoc hx.out hin⟩
        case measure => simp [intOf]; omega
    · rw [List.take_of_length_le (by omega)] at hall
      go_wp2
      go_ret
      refine ⟨ret_bool ?_, rfl⟩
      rw [hall.len]
      exact decide_eq_decide.2 (by omega)

set_option maxHeartbeats 400000 in
theorem specIsValidVector_ok (a : Option Addr) (c : Nat) (xs : List Int) (w : World) (h : Vals w a (I xs)) (hl : xs.length ≤ 1099511627776) :
    Calls Try.prog 66 #[.slice a xs.length c] w fun e w' => e = .returned (.bool (validV xs)) ∧ w = w' := by
  go_enter Try.func66, Try.ntmps66
  go_wp2
  go_loop [3] (fun i => ∃ k : Nat, k ≤ xs.length ∧ i = .int .i64 k ∧ AllEl (xs.take k)) (fun i => xs.length - (intOf i).toNat)
  case atStart => exact ⟨0, Nat.zero_le _, rfl, fun _ h => by simp at h⟩
  case round =>
    obtain ⟨k, hk, rfl, hall⟩ := hrel
    by_cases hlt : k < xs.length
    · obtain ⟨b, o, x, rfl, hb, hx, hc⟩ := h.atI hlt
      cases hin : inR x 0 1018
      · go_wp2_with (go_at_call 128; refine (specIsElement_ok _ _).mono ?_; rintro e w' ⟨rfl, rfl⟩)
        go_ret
        exact ⟨ret_bool (AllEl.no hx.out hin).symm, rfl⟩
      · go_wp2_with (go_at_call 128; refine (specIsElement_ok _ _).mono ?_; rintro e w' ⟨rfl, rfl⟩)
        go_round
        case rel => exact ⟨k + 1, by omega, by go_num, hall.snoc hx.out hin⟩
        case measure => simp [intOf]; omega
    · rw [List.take_of_length_le (by omega)] at hall
      go_wp2
      go_ret
      refine ⟨ret_bool ?_, rfl⟩
      rw [hall.len]
      exact decide_eq_decide.2 (by omega)

set_option maxHeartbeats 400000 in
theorem specLeadingIndex_ok (a : Option Addr) (c : Nat) (xs : List Int) (w : World) (h : Vals w a (I xs)) (hl : xs.length ≤ 1099511627776) :
    Calls Try.prog 92 #[.slice a xs.length c] w fun e w' => e = .returned (.int .i64 (leadI xs)) ∧ w = w' := by
  go_enter Try.func92, Try.ntmps92
  go_wp2
  go_loop [3] (fun i => ∃ k : Nat, k ≤ xs.length ∧ i = .int .i64 k ∧ AllZ (xs.take k)) (fun i => xs.length - (intOf i).toNat)
  case atStart => exact ⟨0, Nat.zero_le _, rfl, fun _ h => by simp at h⟩
  case round =>
    obtain ⟨k, hk, rfl, hall⟩ := hrel
    by_cases hlt : k < xs.length
    · obtain ⟨b, o, x, rfl, hb, hx, hc⟩ := h.atI hlt
      go_wp2
      · go_ret
        exact ⟨ret_int (hall.at_ hx.out ‹_›).symm, rfl⟩
      · go_round
        case rel => exact ⟨k + 1, by omega, by go_num, hall.snoc hx.out ‹_›⟩
        case measure => simp [intOf]; omega
    · rw [List.take_of_length_le (by omega)] at hall
      go_wp2
      go_ret
      exact ⟨ret_int hall.lead.symm, rfl⟩

theorem leadingFunc_ok (x : Int) (w : World) :
    Calls Try.prog 164 #[.int .i64 x] w fun e w' => e = .returned (.bool (x != 0)) ∧ w = w' := by
  go_enter Try.func164, Try.ntmps164
  go_wp2
  go_ret
  exact ⟨rfl, rfl⟩

set_option maxHeartbeats 400000 in
theorem indexLead_ok (a : Option Addr) (c : Nat) (xs : List Int) (w : World) (h : Vals w a (I xs)) (hl : xs.length ≤ 1099511627776) :
    Calls Try.prog 163 #[.slice a xs.length c, .func (.func 164) #[] #[]] w fun e w' => e = .returned (.int .i64 (leadI xs)) ∧ w = w' := by
  go_enter Try.func163, Try.ntmps163
  go_wp2
  go_loop [8] (fun i => ∃ k : Nat, k ≤ xs.length ∧ i = .int .i64 k ∧ AllZ (xs.take k)) (fun i => xs.length - (intOf i).toNat)
  case atStart => exact ⟨0, Nat.zero_le _, rfl, fun _ h => by simp at h⟩
  case round =>
    obtain ⟨k, hk, rfl, hall⟩ := hrel
    by_cases hlt : k < xs.length
    · obtain ⟨b, o, x, rfl, hb, hx, hc⟩ := h.atI hlt
      go_wp2_with (go_at_call 164; refine (leadingFunc_ok _ _).mono ?_; rintro e w' ⟨rfl, rfl⟩)
      · go_ret
        exact ⟨ret_int (hall.at_ hx.out ‹_›).symm, rfl⟩
      · go_round
        case rel => exact ⟨k + 1, by omega, by go_num, hall.snoc hx.out ‹_›⟩
        case measure => simp [intOf]; omega
    · rw [List.take_of_length_le (by omega)] at hall
      go_wp2
      go_ret
      exact ⟨ret_int hall.lead.symm, rfl⟩

theorem implLeadingIndex_ok (a : Option Addr) (c : Nat) (xs : List Int) (w : World) (h : Vals w a (I xs)) (hl : xs.length ≤ 1099511627776) :
    Calls Try.prog 129 #[.slice a xs.length c] w fun e w' => e = .returned (.int .i64 (leadI xs)) ∧ w = w' := by
  go_enter Try.func129, Try.ntmps129
  go_wp2_with (go_at_call 163; refine (indexLead_ok _ _ _ _ h hl).mono ?_; rintro e w' ⟨rfl, rfl⟩)
  go_ret
  exact ⟨rfl, rfl⟩

end Go.Proofs.Ytkegknophppdgaa
