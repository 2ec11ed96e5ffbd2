/- Contracts of small functions over slices of slices of integers: sizes, copies, equality, marks. -/
import Derived.Test.YtkegknophppdgaaPacket
import Derived.Test.YtkegknophppdgaaHash
import Derived.Test.YtkegknophppdgaaOwn
namespace Go.Proofs.Ytkegknophppdgaa
open Go.RowKit
set_option linter.unusedVariables false
set_option maxRecDepth 20000

/-- How many numbers the rows hold. -/
def tot (xss : List (List Int)) : Nat := xss.flatten.length

def szM (xss : List (List Int)) (left : Int) : Int := if left - xss.length - xss.flatten.length < 0 then -1 else left - xss.length - xss.flatten.length

set_option maxHeartbeats 400000 in
theorem szIntSS_ok (a : Option Addr) (c : Nat) (xss : List (List Int)) (left : Int) (w : World) (h : MatR w a xss) (hm : xss.length ≤ maxLen) (hr : ∀ xs ∈ xss, xs.length ≤ maxLen) (h0 : 0 ≤ left) (h1 : left ≤ 1048576) :
    Calls Try.prog 43 #[.slice a xss.length c, .int .i64 left] w fun e w' => e = .returned (.int .i64 (szM xss left)) ∧ w = w' := by
  unfold maxLen at hm
  have HR := Lib.hid hr
  clear hr
  by_cases hn : left - xss.length < 0
  · go_enter Try.func43, Try.ntmps43
    go_wp2
    go_ret
    exact ⟨ret_int (by unfold szM; rw [if_pos (by omega)]), rfl⟩
  · have hn' : 0 ≤ left - xss.length := by omega
    go_enter Try.func43, Try.ntmps43
    go_wp2
    go_loop [1, 5] (fun l i => ∃ k : Nat, k ≤ xss.length ∧ i = .int .i64 k ∧ l = .int .i64 (left - xss.length - (cat xss k).length) ∧ 0 ≤ left - xss.length - (cat xss k).length) (fun _ i => xss.length - (intOf i).toNat)
    case atStart => exact ⟨0, Nat.zero_le _, rfl, by simp [cat_zero], by simp [cat_zero]; omega⟩
    case round =>
      obtain ⟨k, hk, rfl, rfl, hnn⟩ := hrel
      have hle := cat_le xss k
      by_cases hlt : k < xss.length
      · obtain ⟨b, o, ra, rc, xs, rfl, hb, hx, hc, hv⟩ := h.at_ hlt
        have hle' := cat_le xss (k + 1)
        rw [cat_succ hx.out, List.length_append] at hle'
        have hxm := HR.out xs (List.mem_of_getElem? hx.out)
        by_cases hs : szI xs (left - xss.length - (cat xss k).length) < 0
        · go_wp2_with (go_at_call 110; refine (szIntS_ok _ _ _ _ _ hxm hnn (by omega)).mono ?_; rintro e w' ⟨rfl, rfl⟩)
          go_ret
          refine ⟨ret_int ?_, rfl⟩
          unfold szI at hs
          unfold szM
          split at hs
          · rw [if_pos (by omega)]
          · omega
        · have hs2 := szI_le (Int.not_lt.1 hs)
          have hs3 := Lib.hid hs2.2
          have hs4 : 0 ≤ left - xss.length - (cat xss k).length - xs.length := by omega
          clear hs2
          go_wp2_with (go_at_call 110; refine (szIntS_ok _ _ _ _ _ hxm hnn (by omega)).mono ?_; rintro e w' ⟨rfl, rfl⟩; rw [hs3.out])
          go_round
          case rel => exact ⟨k + 1, by omega, by go_num, int_eq (by rw [cat_succ hx.out, List.length_append]; omega), by rw [cat_succ hx.out, List.length_append]; omega⟩
          case measure => simp [intOf]; omega
      · have E : Hid (cat xss k = xss.flatten) := cat_all (by omega)
        go_wp2
        go_ret
        refine ⟨ret_int ?_, rfl⟩
        rw [E.out] at hnn ⊢
        unfold szM
        rw [if_neg (by omega)]

set_option maxHeartbeats 400000 in
theorem eqIntSS_ok (a b : Option Addr) (c d : Nat) (xss yss : List (List Int)) (w : World) (h : MatR w a xss) (h' : MatR w b yss) (hl : xss.length ≤ 1099511627776) (hr : ∀ xs ∈ xss, xs.length ≤ 1099511627776) :
    Calls Try.prog 47 #[.slice a xss.length c, .slice b yss.length d] w (Quiet w (.bool (decide (xss = yss)))) := by
  have HR := Lib.hid hr
  clear hr
  by_cases hn : xss.length = yss.length
  · have hnn : ((xss.length : Int) != (yss.length : Int)) = false := by simp [hn]
    have HN := Lib.hid hn
    clear hn
    go_enter Try.func47, Try.ntmps47
    go_wp2
    go_loopw [5] (fun i wr => ∃ k : Nat, k ≤ xss.length ∧ i = .int .i64 k ∧ xss.take k = yss.take k ∧ Dr w wr) (fun i _ => xss.length - (intOf i).toNat)
    case atStart => exact ⟨0, Nat.zero_le _, rfl, rfl, Dr.refl _⟩
    case round =>
      obtain ⟨k, hk, rfl, htk, he⟩ := hrel
      have HT := Lib.hid htk
      clear htk
      by_cases hlt : k < xss.length
      · obtain ⟨b1, o1, ra, rc, xs, rfl, hb, hx, hc, hv⟩ := (h.ext he.ext).at_ hlt
        have hlt' : k < yss.length := by have := HN.out; omega
        obtain ⟨b2, o2, ra', rc', ys, rfl, hb', hy, hc', hv'⟩ := (h'.ext he.ext).at_ hlt'
        have hxm := HR.out xs (List.mem_of_getElem? hx.out)
        have i1 : (0 : Int) ≤ (k : Int) := by omega
        have i2 : (k : Int) < (xss.length : Int) := by omega
        have i3 : (k : Int) < (yss.length : Int) := by omega
        have q := fun n : Nat => eqIntS_ok ra ra' rc rc' xs ys (wr.drewN n) (hv.ext ((Ext.refl wr).drewN n)) (hv'.ext ((Ext.refl wr).drewN n)) hxm
        have Q := Lib.hid q
        clear q
        cases hq : decide (xs = ys)
        · rw [hq] at Q
          have HQ := Lib.hid (of_decide_eq_false hq)
          clear hq
          go_wp2
          go_quiet ((go_at_call 30; exact Calls.quiet (Q.out _)))
          go_wp2
          go_ret
          exact ⟨ret_bool (decide_eq_false (fun e => HQ.out (by have h1 := hx.out; have h2 := hy.out; rw [e, h2] at h1; injection h1 with h1; exact h1.symm))).symm, he.drewN _⟩
        · rw [hq] at Q
          have HQ := Lib.hid (of_decide_eq_true hq)
          clear hq
          go_wp2
          go_quiet ((go_at_call 30; exact Calls.quiet (Q.out _)))
          go_wp2
          exact ⟨⟨k + 1, by omega, by go_num, by rw [List.take_add_one, List.take_add_one, hx.out, hy.out, HT.out, HQ.out], he.drewN _⟩, by simp [intOf]; omega⟩
      · go_wp2
        go_ret
        refine ⟨ret_bool (decide_eq_true ?_).symm, he⟩
        have := HT.out
        rwa [List.take_of_length_le (by omega), List.take_of_length_le (by have := HN.out; omega)] at this
  · have hnn : ((xss.length : Int) != (yss.length : Int)) = true := by simp; omega
    go_enter Try.func47, Try.ntmps47
    go_wp2
    go_ret
    exact ⟨ret_bool (decide_eq_false (fun e => hn (by rw [e]))).symm, Dr.refl _⟩

set_option maxHeartbeats 400000 in
theorem specEqualMatrices_ok (a b : Option Addr) (c d : Nat) (xss yss : List (List Int)) (w : World) (h : MatR w a xss) (h' : MatR w b yss) (hl : xss.length ≤ 1099511627776) (hr : ∀ xs ∈ xss, xs.length ≤ 1099511627776) :
    Calls Try.prog 112 #[.slice a xss.length c, .slice b yss.length d] w (Quiet w (.bool (decide (xss = yss)))) := by
  have HR := Lib.hid hr
  clear hr
  by_cases hn : xss.length = yss.length
  · have hnn : ((xss.length : Int) != (yss.length : Int)) = false := by simp [hn]
    have HN := Lib.hid hn
    clear hn
    go_enter Try.func112, Try.ntmps112
    go_wp2
    go_loopw [5] (fun i wr => ∃ k : Nat, k ≤ xss.length ∧ i = .int .i64 k ∧ xss.take k = yss.take k ∧ Dr w wr) (fun i _ => xss.length - (intOf i).toNat)
    case atStart => exact ⟨0, Nat.zero_le _, rfl, rfl, Dr.refl _⟩
    case round =>
      obtain ⟨k, hk, rfl, htk, he⟩ := hrel
      have HT := Lib.hid htk
      clear htk
      by_cases hlt : k < xss.length
      · obtain ⟨b1, o1, ra, rc, xs, rfl, hb, hx, hc, hv⟩ := (h.ext he.ext).at_ hlt
        have hlt' : k < yss.length := by have := HN.out; omega
        obtain ⟨b2, o2, ra', rc', ys, rfl, hb', hy, hc', hv'⟩ := (h'.ext he.ext).at_ hlt'
        have hxm := HR.out xs (List.mem_of_getElem? hx.out)
        have i1 : (0 : Int) ≤ (k : Int) := by omega
        have i2 : (k : Int) < (xss.length : Int) := by omega
        have i3 : (k : Int) < (yss.length : Int) := by omega
        have q := fun n : Nat => specEqualInts_ok ra ra' rc rc' xs ys (wr.drewN n) (hv.ext ((Ext.refl wr).drewN n)) (hv'.ext ((Ext.refl wr).drewN n)) hxm
        have Q := Lib.hid q
        clear q
        cases hq : decide (xs = ys)
        · rw [hq] at Q
          have HQ := Lib.hid (of_decide_eq_false hq)
          clear hq
          go_wp2
          go_quiet ((go_at_call 153; exact Calls.quiet (Q.out _)))
          go_wp2
          go_ret
          exact ⟨ret_bool (decide_eq_false (fun e => HQ.out (by have h1 := hx.out; have h2 := hy.out; rw [e, h2] at h1; injection h1 with h1; exact h1.symm))).symm, he.drewN _⟩
        · rw [hq] at Q
          have HQ := Lib.hid (of_decide_eq_true hq)
          clear hq
          go_wp2
          go_quiet ((go_at_call 153; exact Calls.quiet (Q.out _)))
          go_wp2
          exact ⟨⟨k + 1, by omega, by go_num, by rw [List.take_add_one, List.take_add_one, hx.out, hy.out, HT.out, HQ.out], he.drewN _⟩, by simp [intOf]; omega⟩
      · go_wp2
        go_ret
        refine ⟨ret_bool (decide_eq_true ?_).symm, he⟩
        have := HT.out
        rwa [List.take_of_length_le (by omega), List.take_of_length_le (by have := HN.out; omega)] at this
  · have hnn : ((xss.length : Int) != (yss.length : Int)) = true := by simp; omega
    go_enter Try.func112, Try.ntmps112
    go_wp2
    go_ret
    exact ⟨ret_bool (decide_eq_false (fun e => hn (by rw [e]))).symm, Dr.refl _⟩

theorem equalMatricesFunc_ok (a b : Option Addr) (c d : Nat) (xs ys : List Int) (w : World) (h : Vals w a (I xs)) (h' : Vals w b (I ys)) (hl : xs.length ≤ 1099511627776) :
    Calls Try.prog 156 #[.slice a xs.length c, .slice b ys.length d] w (Quiet w (.bool (decide (xs = ys)))) := by
  go_enter Try.func156, Try.ntmps156
  go_wp2_with fail
  refine (slicesEqual_ok _ _ _ _ _ _ _ h h' hl).mono ?_
  rintro e w1 ⟨rfl, hd⟩
  go_wp2_with fail
  go_ret
  exact ⟨rfl, hd⟩

set_option maxHeartbeats 400000 in
theorem equalFuncRows_ok (a b : Option Addr) (c d : Nat) (xss yss : List (List Int)) (w : World) (h : MatR w a xss) (h' : MatR w b yss) (hl : xss.length ≤ 1099511627776) (hr : ∀ xs ∈ xss, xs.length ≤ 1099511627776) :
    Calls Try.prog 155 #[.slice a xss.length c, .slice b yss.length d, .func (.func 156) #[] #[]] w (Quiet w (.bool (decide (xss = yss)))) := by
  have HR := Lib.hid hr
  clear hr
  by_cases hn : xss.length = yss.length
  · have hnn : ((xss.length : Int) != (yss.length : Int)) = false := by simp [hn]
    have HN := Lib.hid hn
    clear hn
    go_enter Try.func155, Try.ntmps155
    go_wp2
    go_loopw [17] (fun i wr => ∃ k : Nat, k ≤ xss.length ∧ i = .int .i64 k ∧ xss.take k = yss.take k ∧ Dr w wr) (fun i _ => xss.length - (intOf i).toNat)
    case atStart => exact ⟨0, Nat.zero_le _, rfl, rfl, Dr.refl _⟩
    case round =>
      obtain ⟨k, hk, rfl, htk, he⟩ := hrel
      have HT := Lib.hid htk
      clear htk
      by_cases hlt : k < xss.length
      · obtain ⟨b1, o1, ra, rc, xs, rfl, hb, hx, hc, hv⟩ := (h.ext he.ext).at_ hlt
        have hlt' : k < yss.length := by have := HN.out; omega
        obtain ⟨b2, o2, ra', rc', ys, rfl, hb', hy, hc', hv'⟩ := (h'.ext he.ext).at_ hlt'
        have hxm := HR.out xs (List.mem_of_getElem? hx.out)
        go_wp2_with fail
        refine (equalMatricesFunc_ok _ _ _ _ _ _ _ hv hv' hxm).mono ?_
        rintro e w1 ⟨rfl, hd⟩
        cases hq : decide (xs = ys)
        · have HQ := Lib.hid (of_decide_eq_false hq)
          clear hq
          go_wp2_with fail
          go_ret
          exact ⟨ret_bool (decide_eq_false (fun e => HQ.out (by have h1 := hx.out; have h2 := hy.out; rw [e, h2] at h1; injection h1 with h1; exact h1.symm))).symm, he.trans hd⟩
        · have HQ := Lib.hid (of_decide_eq_true hq)
          clear hq
          go_wp2_with fail
          exact ⟨⟨k + 1, by omega, by go_num, by rw [List.take_add_one, List.take_add_one, hx.out, hy.out, HT.out, HQ.out], he.trans hd⟩, by simp [intOf]; omega⟩
      · go_wp2
        go_ret
        refine ⟨ret_bool (decide_eq_true ?_).symm, he⟩
        have := HT.out
        rwa [List.take_of_length_le (by omega), List.take_of_length_le (by have := HN.out; omega)] at this
  · have hnn : ((xss.length : Int) != (yss.length : Int)) = true := by simp; omega
    go_enter Try.func155, Try.ntmps155
    go_wp2
    go_ret
    exact ⟨ret_bool (decide_eq_false (fun e => hn (by rw [e]))).symm, Dr.refl _⟩

theorem implEqualMatrices_ok (a b : Option Addr) (c d : Nat) (xss yss : List (List Int)) (w : World) (h : MatR w a xss) (h' : MatR w b yss) (hl : xss.length ≤ 1099511627776) (hr : ∀ xs ∈ xss, xs.length ≤ 1099511627776) :
    Calls Try.prog 114 #[.slice a xss.length c, .slice b yss.length d] w (Quiet w (.bool (decide (xss = yss)))) := by
  go_enter Try.func114, Try.ntmps114
  go_wp2_with fail
  refine (equalFuncRows_ok _ _ _ _ _ _ _ h h' hl hr).mono ?_
  rintro e w1 ⟨rfl, hd⟩
  go_wp2_with fail
  go_ret
  exact ⟨rfl, hd⟩

theorem implColumnsOf_ok (a : Option Addr) (c : Nat) (xss : List (List Int)) (w : World) (h : MatR w a xss) :
    Calls Try.prog 115 #[.slice a xss.length c] w fun e w' => e = .returned (.int .i64 (cols xss)) ∧ w = w' := by
  cases xss with
  | nil =>
    go_enter Try.func115, Try.ntmps115
    go_wp2
    go_ret
    exact ⟨rfl, rfl⟩
  | cons x0 r =>
    obtain ⟨b, o, ra, rc, xs, rfl, hb, hx, hc, hv⟩ := h.at_ (k := 0) (by simp)
    obtain rfl : x0 = xs := by simpa using hx.out
    rw [Nat.add_zero] at hc
    have hpos : 0 < (x0 :: r).length := by simp
    generalize (x0 :: r).length = n at *
    have hne : ((n : Int) == 0) = false := by simp; omega
    have hpos' : (0 : Int) < (n : Int) := by omega
    go_enter Try.func115, Try.ntmps115
    go_wp2
    go_ret
    exact ⟨rfl, rfl⟩

theorem specColumnsOf_ok (a : Option Addr) (c : Nat) (xss : List (List Int)) (w : World) (h : MatR w a xss) :
    Calls Try.prog 77 #[.slice a xss.length c] w fun e w' => e = .returned (.int .i64 (cols xss)) ∧ w = w' := by
  cases xss with
  | nil =>
    go_enter Try.func77, Try.ntmps77
    go_wp2
    go_ret
    exact ⟨rfl, rfl⟩
  | cons x0 r =>
    obtain ⟨b, o, ra, rc, xs, rfl, hb, hx, hc, hv⟩ := h.at_ (k := 0) (by simp)
    obtain rfl : x0 = xs := by simpa using hx.out
    rw [Nat.add_zero] at hc
    have hpos : 0 < (x0 :: r).length := by simp
    generalize (x0 :: r).length = n at *
    have hne : ((n : Int) == 0) = false := by simp; omega
    have hpos' : (0 : Int) < (n : Int) := by omega
    go_enter Try.func77, Try.ntmps77
    go_wp2
    go_ret
    exact ⟨rfl, rfl⟩

/-- n numbers, one by one from k on. -/
def upFrom (k : Int) (n : Nat) : List Int := (List.range n).map fun i => k + (i : Nat)
theorem upFrom_length (k : Int) (n : Nat) : (upFrom k n).length = n := by simp [upFrom]
theorem upFrom_get {k : Int} {n i : Nat} (h : i < n) : (upFrom k n)[i]? = some (k + i) := by simp [upFrom, h]
theorem upFrom_succ (k : Int) (n : Nat) : upFrom k (n + 1) = upFrom k n ++ [k + n] := by simp [upFrom, List.range_succ]

theorem mark_set {k : Int} {xs : List Int} {i : Nat} (h : i < xs.length) : (upFrom k i ++ xs.drop i).set i (k + i) = upFrom k (i + 1) ++ xs.drop (i + 1) := by
  rw [List.set_append_right _ _ (by rw [upFrom_length]; exact Nat.le_refl _), upFrom_length, Nat.sub_self, List.drop_eq_getElem_cons h, List.set_cons_zero, upFrom_succ, List.append_assoc]
  rfl
theorem mark_get {k : Int} {xs : List Int} {i : Nat} (h : i < xs.length) : (upFrom k i ++ xs.drop i)[i]? = some xs[i] := by
  rw [List.getElem?_append_right (by rw [upFrom_length]; exact Nat.le_refl _), upFrom_length, Nat.sub_self, List.drop_eq_getElem_cons h]
  rfl

/-- A store into an owned slice of integers. -/
theorem OI.store {w : World} {B B2 g c : Nat} {xs : List Int} (h : OI w B B2 (some ⟨g, 0, none⟩) c xs) (i : Nat) (x : Int) (hi : i < xs.length) :
    OI (w.setCell ⟨g, i, none⟩ (.int .i64 x)) B B2 (some ⟨g, 0, none⟩) c (xs.set i x) ∧ Span B B2 w (w.setCell ⟨g, i, none⟩ (.int .i64 x)) ∧ w.frozen? ⟨g, i, none⟩ = false ∧ ∃ u, w.cell? ⟨g, i, none⟩ = some u := by
  have h1 := World.ownsRow.stored h.1 i (.int .i64 x)
  refine ⟨⟨?_, h.2⟩, ?_, World.ownsRow.frozenAt h.1 i, ?_⟩
  · have := h1.1
    unfold OwnI
    rw [List.length_set]
    rw [← List.map_set] at this
    exact this
  · exact (Span.refl B B2 w).setCell (p := ⟨g, i, none⟩) ⟨(h.1.block g rfl).1, h.2 g rfl⟩ _
  · refine ⟨.int .i64 xs[i], ?_⟩
    rw [World.ownsRow.cellAt h.1 i (by omega)]
    simp [hi]

/-- The address of an owned slice that is not empty. -/
theorem OI.form {w : World} {B B2 c : Nat} {a : Option Addr} {xs : List Int} (h : OI w B B2 a c xs) (hx : 0 < xs.length) : ∃ g, a = some ⟨g, 0, none⟩ ∧ B ≤ g ∧ g < B2 ∧ g < w.heap.size := by
  rcases h.1.2 with ⟨hv, hn⟩ | ⟨g, cap, cur, hv, hB, hg, _⟩
  · omega
  · injection hv with h1
    subst h1
    exact ⟨g, rfl, hB, h.2 g rfl, (Array.getElem?_eq_some_iff.1 hg).1⟩

set_option maxHeartbeats 400000 in
theorem markIntS_ok (B B2 : Nat) (a : Option Addr) (c : Nat) (xs : List Int) (k : Int) (w : World) (h : OI w B B2 a c xs) (hl : xs.length ≤ 1099511627776) (h0 : 0 ≤ k) (h1 : k ≤ 4398046511104) :
    Calls Try.prog 32 #[.slice a xs.length c, .int .i64 k] w fun e w' => e = .returned (.int .i64 (k + xs.length)) ∧ OI w' B B2 a c (upFrom k xs.length) ∧ Span B B2 w w' := by
  go_enter Try.func32, Try.ntmps32
  go_wp2
  go_loopw [1, 5] (fun m i wr => ∃ j : Nat, j ≤ xs.length ∧ i = .int .i64 j ∧ m = .int .i64 (k + j) ∧ OI wr B B2 a c (upFrom k j ++ xs.drop j) ∧ Span B B2 w wr) (fun _ i _ => xs.length - (intOf i).toNat)
  case atStart => exact ⟨0, Nat.zero_le _, rfl, by simp, h, Span.refl _ _ _⟩
  case round =>
    clear h
    obtain ⟨j, hj, rfl, rfl, ho, hs⟩ := hrel
    have hlen : (upFrom k j ++ xs.drop j).length = xs.length := by simp [upFrom_length]; omega
    by_cases hlt : j < xs.length
    · obtain ⟨g, rfl, g1, g2, g3⟩ := ho.form (by omega)
      obtain ⟨s1, s2, s3, u, s4⟩ := ho.store j (k + j) (by omega)
      rw [mark_set hlt] at s1
      have s5 := hs.trans s2
      clear ho hs s2 hlen
      go_wp2
      go_roundw
      case rel => exact ⟨j + 1, by omega, by go_num, by go_num, s1, s5⟩
      case measure => simp [intOf]; omega
    · obtain rfl : j = xs.length := by omega
      rw [List.drop_length, List.append_nil] at ho
      clear hlen
      go_wp2
      go_ret
      exact ⟨rfl, ho, hs⟩

set_option maxHeartbeats 400000 in
theorem heldIntS_ok (a : Option Addr) (c n : Nat) (k : Int) (w : World) (h : Vals w a (I (upFrom k n))) (hl : n ≤ 1099511627776) (h0 : 0 ≤ k) (h1 : k ≤ 4398046511104) :
    Calls Try.prog 52 #[.slice a n c, .int .i64 k] w fun e w' => e = .returned (.int .i64 (k + n)) ∧ w = w' := by
  go_enter Try.func52, Try.ntmps52
  go_wp2
  go_loop [1, 5] (fun m i => ∃ j : Nat, j ≤ n ∧ i = .int .i64 j ∧ m = .int .i64 (k + j)) (fun _ i => n - (intOf i).toNat)
  case atStart => exact ⟨0, Nat.zero_le _, rfl, by simp⟩
  case round =>
    obtain ⟨j, hj, rfl, rfl⟩ := hrel
    by_cases hlt : j < n
    · obtain ⟨b, o, x, rfl, hb, hx, hc⟩ := h.atI (k := j) (by rw [upFrom_length]; exact hlt)
      have hxe : x = k + j := by
        have := hx.out
        rw [upFrom_get hlt] at this
        injection this with this
        exact this.symm
      subst hxe
      have hne : ((k + (j : Int)) != (k + (j : Int))) = false := by simp
      go_wp2
      go_round
      case rel => exact ⟨j + 1, by omega, by go_num, by go_num⟩
      case measure => simp [intOf]; omega
    · obtain rfl : j = n := by omega
      go_wp2
      go_ret
      exact ⟨rfl, rfl⟩

/-- Rows of the same lengths, numbered one by one from k on. -/
def upRows (k : Int) : List (List Int) → List (List Int)
  | [] => []
  | xs :: r => upFrom k xs.length :: upRows (k + xs.length) r

theorem upRows_length (k : Int) (xss : List (List Int)) : (upRows k xss).length = xss.length := by
  induction xss generalizing k with
  | nil => rfl
  | cons x r ih => simp [upRows, ih]
theorem upRows_get {k : Int} {xss : List (List Int)} {i : Nat} {xs : List Int} (h : xss[i]? = some xs) : (upRows k xss)[i]? = some (upFrom (k + (cat xss i).length) xs.length) := by
  induction xss generalizing k i with
  | nil => simp at h
  | cons x r ih =>
    cases i with
    | zero => simp at h; subst h; simp [upRows, cat]
    | succ i =>
      simp at h
      simp only [upRows, List.getElem?_cons_succ]
      rw [ih h]
      congr 2
      simp [cat]
      omega

/-- The first i rows are numbered, the others are as they were. -/
def markTo (k : Int) (xss : List (List Int)) (i : Nat) : List (List Int) := (upRows k xss).take i ++ xss.drop i
theorem markTo_zero (k : Int) (xss : List (List Int)) : markTo k xss 0 = xss := by simp [markTo]
theorem markTo_all {k : Int} {xss : List (List Int)} {i : Nat} (h : xss.length ≤ i) : markTo k xss i = upRows k xss := by
  unfold markTo
  rw [List.take_of_length_le (by rw [upRows_length]; exact h), List.drop_of_length_le h, List.append_nil]
theorem markTo_length (k : Int) (xss : List (List Int)) (i : Nat) : (markTo k xss i).length = xss.length := by
  simp [markTo, upRows_length]
  omega
theorem markTo_at {k : Int} {xss : List (List Int)} {i : Nat} {xs : List Int} (h : xss[i]? = some xs) : (markTo k xss i)[i]? = some xs := by
  have hi := (List.getElem?_eq_some_iff.1 h).1
  unfold markTo
  rw [List.getElem?_append_right (by simp; omega), List.length_take, upRows_length, Nat.min_eq_left (by omega), Nat.sub_self, List.getElem?_drop]
  exact h
theorem markTo_succ {k : Int} {xss : List (List Int)} {i : Nat} {xs : List Int} (h : xss[i]? = some xs) : markTo k xss (i + 1) = (markTo k xss i).set i (upFrom (k + (cat xss i).length) xs.length) := by
  have hi := (List.getElem?_eq_some_iff.1 h).1
  unfold markTo
  rw [List.set_append_right _ _ (by simp; omega), List.length_take, upRows_length, Nat.min_eq_left (by omega), Nat.sub_self, List.drop_eq_getElem_cons hi, List.set_cons_zero, List.take_add_one, upRows_get h]
  simp

/-- One row of an owned slice of rows is written. -/
theorem RowsO.set {w w' : World} {B B2 : Nat} {rs : List (Option Addr × Nat)} {xss : List (List Int)} (h : RowsO w B B2 rs xss) {i : Nat} {ra : Option Addr} {rc : Nat} {ys : List Int} (hr : rs[i]? = some (ra, rc)) (ho : OI w' B B2 ra rc ys)
    (hk : ∀ k, k < w.heap.size → blockOf ra ≠ some k → w'.heap[k]? = w.heap[k]?) : RowsO w' B B2 rs (xss.set i ys) := by
  refine ⟨by simp [h.len], fun j r xs hj hx => ?_, h.apart⟩
  by_cases hij : j = i
  · subst hij
    rw [hr] at hj
    injection hj with hj
    subst hj
    rw [List.getElem?_set_self (by rw [← h.len]; exact (List.getElem?_eq_some_iff.1 hr).1)] at hx
    injection hx with hx
    subst hx
    exact ho
  · rw [List.getElem?_set_ne (by omega)] at hx
    have h1 := h.row j r xs hj hx
    refine ⟨h1.1.of_block fun k hk' => hk k (h1.1.block k hk').2 (fun e => ?_), h1.2⟩
    rcases Nat.lt_or_gt_of_ne hij with hlt | hgt
    · exact h.apart j i r (ra, rc) hlt hj hr k hk' e
    · exact h.apart i j (ra, rc) r hgt hr hj k e hk'

theorem RV_set {rs : List (Option Addr × Nat)} {xss : List (List Int)} {i : Nat} {xs ys : List Int} (hx : xss[i]? = some xs) (hl : ys.length = xs.length) : RV rs (xss.set i ys) = RV rs xss := by
  apply List.ext_getElem?
  intro j
  unfold RV
  rw [List.getElem?_zipWith, List.getElem?_zipWith]
  by_cases hij : j = i
  · subst hij
    rw [List.getElem?_set_self (List.getElem?_eq_some_iff.1 hx).1, hx]
    cases rs[j]? with
    | none => rfl
    | some r => simp [rowV, hl]
  · rw [List.getElem?_set_ne (by omega)]

/-- Rows of different element types lie in different blocks. -/
theorem block_ne {w : World} {B B' : Nat} {e e' : TypeId} {a b : Option Addr} {n m c d : Nat} {vs us : List Value} (h : w.ownsRow B e 1 (.slice a n c) n vs) (h' : w.ownsRow B' e' 1 (.slice b m d) m us) (hne : e ≠ e') : Apart a b := by
  intro k h1 h2
  rcases h.2 with ⟨hv, _⟩ | ⟨g, cap, cur, hv, _, hg, _⟩
  · injection hv with hv; subst hv; simp [blockOf] at h1
  · rcases h'.2 with ⟨hv', _⟩ | ⟨g', cap', cur', hv', _, hg', _⟩
    · injection hv' with hv'; subst hv'; simp [blockOf] at h2
    · injection hv with hv; injection hv' with hv'
      subst hv hv'
      simp [blockOf] at h1 h2
      subst h1 h2
      rw [hg] at hg'
      injection hg' with hg'
      injection hg' with _ ht
      exact hne ht

/-- The range of one slice alone. -/
theorem OI.alone {w : World} {B B2 c : Nat} {a : Option Addr} {xs : List Int} (h : OI w B B2 a c xs) : ∃ g g2, OI w g g2 a c xs ∧ (∀ k, g ≤ k → k < g2 → blockOf a = some k) ∧ (∀ w' ys, OI w' g g2 a c ys → OI w' B B2 a c ys) ∧ (∀ w', Span g g2 w w' → Span B B2 w w') := by
  cases a with
  | none => exact ⟨0, 0, ⟨h.1.more (Nat.zero_le _), fun k hk => by simp [blockOf] at hk⟩, fun k _ hk => by omega, fun w' ys ho => ⟨⟨ho.1.1, by
        rcases ho.1.2 with hn | ⟨g, cap, cur, hv, _⟩
        · exact .inl hn
        · injection hv with hv; cases hv⟩, fun k hk => by simp [blockOf] at hk⟩, fun w' hs => ⟨hs.os, hs.tape, hs.output, hs.size, fun k hk _ => hs.block k hk (by omega)⟩⟩
  | some ad =>
    have hb := h.1.block ad.block rfl
    have hb2 := h.2 ad.block rfl
    refine ⟨ad.block, ad.block + 1, ⟨⟨h.1.1, ?_⟩, fun k hk => by simp [blockOf] at hk; omega⟩, fun k h1 h2 => by simp [blockOf]; omega, fun w' ys ho => ho.mono hb.1 (by omega), fun w' hs => hs.mono hb.1 (by omega)⟩
    rcases h.1.2 with hn | ⟨g, cap, cur, hv, _, r⟩
    · exact .inl hn
    · refine .inr ⟨g, cap, cur, hv, ?_, r⟩
      injection hv with hv
      injection hv with hv
      rw [hv]
      exact Nat.le_refl _

theorem ints_ne : (32 : TypeId) ≠ 3 := by decide

set_option maxHeartbeats 1000000 in
theorem markIntSS_ok (B B2 : Nat) (a : Option Addr) (c : Nat) (xss : List (List Int)) (k : Int) (w : World) (h : OM w B B2 a c xss) (hl : xss.length ≤ 1099511627776) (ht : xss.flatten.length ≤ 1099511627776) (h0 : 0 ≤ k) (h1 : k ≤ 1048576) :
    Calls Try.prog 48 #[.slice a xss.length c, .int .i64 k] w fun e w' => e = .returned (.int .i64 (k + tot xss)) ∧ OM w' B B2 a c (upRows k xss) ∧ Span B B2 w w' := by
  go_enter Try.func48, Try.ntmps48
  go_wp2
  go_loopw [1, 5] (fun m i wr => ∃ j : Nat, j ≤ xss.length ∧ i = .int .i64 j ∧ m = .int .i64 (k + (cat xss j).length) ∧ OM wr B B2 a c (markTo k xss j) ∧ Span B B2 w wr) (fun _ i _ => xss.length - (intOf i).toNat)
  case atStart => exact ⟨0, Nat.zero_le _, rfl, by simp [cat_zero], by rw [markTo_zero]; exact h, Span.refl _ _ _⟩
  case round =>
    clear h
    obtain ⟨j, hj, rfl, rfl, ho, hs⟩ := hrel
    have hle := cat_le xss j
    by_cases hlt : j < xss.length
    · obtain ⟨rs, q1, q2, q3⟩ := ho
      have hml := markTo_length k xss j
      have hM : Mat wr a rs (markTo k xss j) := ⟨q3.len, Vals.of_own q1, fun i r xs hr hx => (q3.row i r xs hr hx).vals⟩
      obtain ⟨b, o, ra, rc, xs, rfl, hb, hr, hx, hc, hv⟩ := hM.at_ (k := j) (by omega)
      have hx0 : Hid (xss[j]? = some xs) := by
        have h2 : xss[j]? = some xss[j] := List.getElem?_eq_getElem hlt
        have h3 := markTo_at (k := k) h2
        rw [hx.out] at h3
        injection h3 with h3
        rw [h3]
        exact h2
      have hle' := cat_le xss (j + 1)
      rw [cat_succ hx0.out, List.length_append] at hle'
      have hrow := q3.row j _ _ hr.out hx.out
      obtain ⟨g, g2, r1, r2, r3, r4⟩ := hrow.alone
      clear hM hml
      go_wp2_with fail
      refine (markIntS_ok g g2 ra rc xs _ _ r1 (by omega) (by omega) (by omega)).mono ?_
      rintro e w1 ⟨rfl, n1, n2⟩
      have hkeep : ∀ k, k < wr.heap.size → blockOf ra ≠ some k → w1.heap[k]? = wr.heap[k]? := fun k hk hne => n2.block k hk (by
        rcases Nat.lt_or_ge k g with h | h
        · exact .inl h
        · rcases Nat.lt_or_ge k g2 with h' | h'
          · exact absurd (r2 k h h') hne
          · exact .inr h')
      have hrows := q3.set hr.out (r3 _ _ n1) hkeep
      rw [← markTo_succ hx0.out] at hrows
      have htop : w1.ownsRow B 32 1 (.slice (some ⟨b, o, none⟩) (markTo k xss j).length c) (markTo k xss j).length (RV rs (markTo k xss j)) :=
        ownsRow_of_block q1 fun k' hk' => hkeep k' (ownsRow_block q1 k' hk').2 (fun e => block_ne q1 hrow.1 ints_ne k' hk' e)
      have hO : OM w1 B B2 (some ⟨b, o, none⟩) c (markTo k xss (j + 1)) := by
        refine ⟨rs, ?_, q2, hrows⟩
        rw [markTo_succ hx0.out, RV_set hx.out (upFrom_length _ _), List.length_set]
        exact htop
      have hS := hs.trans (r4 _ n2)
      clear hrows htop hkeep n1 n2 r1 r2 r3 r4 hrow q1 q2 q3
      go_wp2_with fail
      go_roundw
      case rel => exact ⟨j + 1, by omega, by go_num, int_eq (by rw [cat_succ hx0.out, List.length_append]; omega), hO, hS⟩
      case measure => simp [intOf]; omega
    · have E : Hid (cat xss j = xss.flatten) := cat_all (by omega)
      rw [markTo_all (by omega)] at ho
      go_wp2
      go_ret
      exact ⟨ret_int (by rw [E.out]; rfl), ho, hs⟩

set_option maxHeartbeats 400000 in
theorem heldIntSS_ok (a : Option Addr) (c : Nat) (xss : List (List Int)) (k : Int) (w : World) (h : MatR w a (upRows k xss)) (hl : xss.length ≤ 1099511627776) (ht : xss.flatten.length ≤ 1099511627776) (h0 : 0 ≤ k) (h1 : k ≤ 1048576) :
    Calls Try.prog 98 #[.slice a xss.length c, .int .i64 k] w fun e w' => e = .returned (.int .i64 (k + tot xss)) ∧ w = w' := by
  go_enter Try.func98, Try.ntmps98
  go_wp2
  go_loop [1, 5] (fun m i => ∃ j : Nat, j ≤ xss.length ∧ i = .int .i64 j ∧ m = .int .i64 (k + (cat xss j).length)) (fun _ i => xss.length - (intOf i).toNat)
  case atStart => exact ⟨0, Nat.zero_le _, rfl, by simp [cat_zero]⟩
  case round =>
    obtain ⟨j, hj, rfl, rfl⟩ := hrel
    have hle := cat_le xss j
    by_cases hlt : j < xss.length
    · obtain ⟨b, o, ra, rc, ys, rfl, hb, hx, hc, hv⟩ := h.at_ (k := j) (by rw [upRows_length]; exact hlt)
      obtain ⟨xs, hx0⟩ : ∃ xs, Hid (xss[j]? = some xs) := ⟨_, List.getElem?_eq_getElem hlt⟩
      obtain rfl : ys = upFrom (k + (cat xss j).length) xs.length := by
        have := hx.out
        rw [upRows_get hx0.out] at this
        injection this with this
        exact this.symm
      have hle' := cat_le xss (j + 1)
      rw [cat_succ hx0.out, List.length_append] at hle'
      rw [upFrom_length] at hc
      go_wp2_with (go_at_call 52; refine (heldIntS_ok _ _ _ _ _ hv (by omega) (by omega) (by omega)).mono ?_; rintro e w' ⟨rfl, rfl⟩)
      go_round
      case rel => exact ⟨j + 1, by omega, by go_num, int_eq (by rw [cat_succ hx0.out, List.length_append]; omega)⟩
      case measure => simp [intOf]; omega
    · have E : Hid (cat xss j = xss.flatten) := cat_all (by omega)
      go_wp2
      go_ret
      exact ⟨ret_int (by rw [E.out]; rfl), rfl⟩

theorem RV_push {rs : List (Option Addr × Nat)} {xss : List (List Int)} (hl : rs.length = xss.length) (ra : Option Addr) (rc : Nat) (xs : List Int) : RV (rs ++ [(ra, rc)]) (xss ++ [xs]) = RV rs xss ++ [.slice ra xs.length rc] := by
  unfold RV
  rw [List.zipWith_append hl]
  rfl
theorem RV_length {rs : List (Option Addr × Nat)} {xss : List (List Int)} (hl : rs.length = xss.length) : (RV rs xss).length = xss.length := by simp [RV, hl]

/-- A slice cell of a row that is being filled. -/
theorem fillV_get {vs : List Value} {n k : Nat} (hl : vs.length = k) (hk : k < n) (z : Value) : (vs ++ List.replicate (n - k) z)[k]? = some z := by
  rw [List.getElem?_append_right (by omega), hl, Nat.sub_self, List.getElem?_replicate, if_pos (by omega)]
theorem fillV_set {vs : List Value} {n k : Nat} (hl : vs.length = k) (hk : k < n) (z v : Value) : (vs ++ List.replicate (n - k) z).set k v = vs ++ [v] ++ List.replicate (n - (k + 1)) z := by
  obtain ⟨m, hm⟩ : ∃ m, n - k = m + 1 := ⟨n - k - 1, by omega⟩
  rw [List.set_append_right _ _ (by omega), hl, Nat.sub_self, hm, List.replicate_succ, List.set_cons_zero, show n - (k + 1) = m by omega, List.append_assoc]
  rfl

set_option maxHeartbeats 1000000 in
theorem toIntSS_ok (a : Option Addr) (c : Nat) (xss : List (List Int)) (w : World) (h : MatR w a xss) (hl : xss.length ≤ 1048576) (hr : ∀ xs ∈ xss, xs.length ≤ 1048576) :
    Calls Try.prog 45 #[.slice a xss.length c] w (NewM w xss) := by
  obtain ⟨i, hi, hz0, hz1, hz2⟩ := info_parts infoInts
  have HR := Lib.hid hr
  clear hr
  go_enter Try.func45, Try.ntmps45
  go_wp2_with (at_make; refine wpList_make_full _ rfl _ _ 48 rfl w.heap.size 32 i (.slice none 0 0) 1 Try.underlying48 hi hz0 hz1 _ _ _ _ xss.length rfl rfl rfl rfl ?b1 ?b2 (Nat.le_refl _) ?_)
  case b1 => rw [hz2]; omega
  case b2 => unfold maxLen; omega
  intro w1 hown hgrow
  have hown0 : w1.ownsRow w.heap.size 32 1 (.slice (some ⟨w.heap.size, 0, none⟩) xss.length xss.length) xss.length (RV [] (xss.take 0) ++ List.replicate (xss.length - 0) (.slice none 0 0)) := by
    simpa [Value.cells, toList_madeCells_one, RV] using hown
  have he := (Ext.refl w).grown hgrow (by simp)
  have hsz : w.heap.size + 1 ≤ w1.heap.size := (ownsRow_block hown0 w.heap.size rfl).2
  clear hown hgrow
  go_wp2
  go_loopw [4] (fun i wr => ∃ (k : Nat) (rs : List (Option Addr × Nat)), k ≤ xss.length ∧ i = .int .i64 k ∧ wr.ownsRow w.heap.size 32 1 (.slice (some ⟨w.heap.size, 0, none⟩) xss.length xss.length) xss.length (RV rs (xss.take k) ++ List.replicate (xss.length - k) (.slice none 0 0)) ∧ RowsO wr (w.heap.size + 1) wr.heap.size rs (xss.take k) ∧ w.heap.size + 1 ≤ wr.heap.size ∧ Ext w wr) (fun i _ => xss.length - (intOf i).toNat)
  case atStart => exact ⟨0, [], Nat.zero_le _, rfl, hown0, RowsO.nil _ _ _, hsz, he⟩
  case round =>
    clear hown0 he hsz
    obtain ⟨k, rs, hk, rfl, hown, hrows, hsz, he⟩ := hrel
    have hrl : rs.length = k := by have := hrows.len; simp at this; omega
    have HL := Lib.hid hrl
    clear hrl
    by_cases hlt : k < xss.length
    · obtain ⟨b, o, ra, rc, xs, rfl, hb, hx, hc, hv⟩ := (h.ext he).at_ hlt
      have hxm := HR.out xs (List.mem_of_getElem? hx.out)
      go_wp2_with fail
      refine (toIntS_ok _ _ _ _ hv hxm).mono ?_
      rintro e w2 ⟨a2, c2, rfl, o2, e2⟩
      have hvl : (RV rs (xss.take k)).length = k := by rw [RV_length hrows.len]; simp; omega
      have htop : w2.ownsRow w.heap.size 32 1 (.slice (some ⟨w.heap.size, 0, none⟩) xss.length xss.length) xss.length (RV rs (xss.take k) ++ List.replicate (xss.length - k) (.slice none 0 0)) :=
        ownsRow_of_block hown fun k hk => e2.block_eq (ownsRow_block hown k hk).2
      have hco : w2.cell? ⟨w.heap.size, k, none⟩ = some (.slice none 0 0) := by
        rw [htop.cellAt k (by omega), fillV_get hvl hlt]
      have hfo := htop.frozenAt k
      have hst := (htop.stored k (.slice a2 xs.length c2)).1
      rw [fillV_set hvl hlt, ← RV_push hrows.len, ← show xss.take (k + 1) = xss.take k ++ [xs] by rw [List.take_add_one, hx.out]; rfl] at hst
      have hp := (hrows.ext e2).push (OI.of o2) hsz e2.size_le
      rw [← show xss.take (k + 1) = xss.take k ++ [xs] by rw [List.take_add_one, hx.out]; rfl] at hp
      have hp2 := hp.span ((Span.refl w.heap.size (w.heap.size + 1) w2).setCell (p := ⟨w.heap.size, k, none⟩) ⟨Nat.le_refl _, Nat.lt_succ_self _⟩ (.slice a2 xs.length c2)) (.inr (Nat.le_refl _))
      have he2 := (he.trans e2).setCell (p := ⟨w.heap.size, k, none⟩) (Nat.le_refl _) (.slice a2 xs.length c2)
      have hz2 := e2.size_le
      clear hown hrows he htop hp o2 e2 hvl
      go_wp2_with fail
      go_roundw
      case rel => exact ⟨k + 1, rs ++ [(a2, c2)], by omega, by go_num, hst, by simpa using hp2, by simp; omega, he2⟩
      case measure => simp [intOf]; omega
    · rw [show xss.length - k = 0 by omega, List.replicate_zero, List.append_nil] at hown
      have E : Hid (xss.take k = xss) := List.take_of_length_le (by omega)
      rw [E.out] at hown hrows
      go_wp2
      go_ret
      exact ⟨_, _, rfl, ⟨rs, hown, fun k hk => (ownsRow_block hown k hk).2, hrows.mono (by omega) (Nat.le_refl _)⟩, he⟩

end Go.Proofs.Ytkegknophppdgaa
