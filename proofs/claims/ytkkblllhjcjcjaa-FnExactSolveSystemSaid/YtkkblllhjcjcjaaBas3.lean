/- Contracts of FreeColumns and Coordinates (program and reference); of slices.IndexFunc over rows. -/
import Derived.Test.YtkkblllhjcjcjaaBas2
namespace Go.Proofs.Ytkkblllhjcjcjaa
open Go.RowKit
set_option linter.unusedVariables false
set_option maxRecDepth 20000

/-- A call hands back a new slice of integers and a bool. -/
def NewIF (w : World) (xs : List Int) (ok : Bool) (e : Ending) (w' : World) : Prop := ∃ a c, e = .returned (.tuple #[.slice a xs.length c, .bool ok]) ∧ OwnI w' w.heap.size a c xs ∧ Ext w w'

/-- The index of the first row for which F holds, or -1. -/
def firstR (m : List (List Int)) (F : List Int → Bool) : Int := if m.all (fun r => !F r) then -1 else (m.findIdx F : Nat)
theorem firstR_at {m : List (List Int)} {F : List Int → Bool} {k : Nat} {xs : List Int} (h : ∀ r ∈ m.take k, F r = false) (hx : m[k]? = some xs) (hf : F xs = true) : firstR m F = k := by
  obtain ⟨hk, hxx⟩ := List.getElem?_eq_some_iff.1 hx
  unfold firstR
  rw [if_neg]
  · have : m.findIdx F = k := by
      rw [List.findIdx_eq hk]
      refine ⟨by rw [hxx]; exact hf, fun j hj => ?_⟩
      exact h _ (List.mem_iff_getElem.2 ⟨j, by simp; omega, by simp⟩)
    rw [this]
  · intro hall
    have := List.all_eq_true.1 hall xs (List.mem_of_getElem? hx)
    rw [hf] at this
    cases this
theorem firstR_none {m : List (List Int)} {F : List Int → Bool} (h : ∀ r ∈ m, F r = false) : firstR m F = -1 := by
  unfold firstR
  rw [if_pos]
  rw [List.all_eq_true]
  intro r hr
  rw [h r hr]
  rfl

set_option maxHeartbeats 1000000 in
theorem indexFree_ok (a : Option Addr) (c : Nat) (m : List (List Int)) (p : Addr) (F : List Int → Bool) (w : World) (h : MatR w a m) (hl : m.length ≤ 1099511627776)
    (hF : ∀ (wr : World) (ra : Option Addr) (rc : Nat) (xs : List Int), Dr w wr → xs ∈ m → Vals wr ra (I xs) → Calls Try.prog 97 #[.slice ra xs.length rc, .pointer (some p)] wr (Quiet wr (.bool (F xs)))) :
    Calls Try.prog 67 #[.slice a m.length c, .func (.func 97) #[] #[.pointer (some p)]] w (Quiet w (.int .i64 (firstR m F))) := by
  have HF := Lib.hid hF
  clear hF
  go_enter Try.func67, Try.ntmps67
  go_wp2
  go_loopw [8] (fun i wr => ∃ k : Nat, k ≤ m.length ∧ i = .int .i64 k ∧ Hid (∀ r ∈ m.take k, F r = false) ∧ Dr w wr) (fun i _ => m.length - (intOf i).toNat)
  case atStart => exact ⟨0, Nat.zero_le _, rfl, fun r hr => by simp at hr, Dr.refl _⟩
  case round =>
    obtain ⟨k, hk, rfl, HK, he⟩ := hrel
    by_cases hlt : k < m.length
    · obtain ⟨b, o, ra, rc, xs, rfl, hb, hx, hc, hrow⟩ := (h.ext he.ext).at_ hlt
      have CC := Lib.hid (HF.out wr ra rc xs he (List.mem_of_getElem? hx.out) hrow)
      cases hq : F xs
      · have HK2 : Hid (∀ r ∈ m.take (k + 1), F r = false) := mem_take_snoc HK.out hx.out hq
        rw [hq] at CC
        clear hq
        go_wp2_with fail
        (with_reducible refine CC.out.mono ?_)
        rintro e w2 ⟨rfl, e2⟩
        have e3 := he.trans e2
        go_wp2_with fail
        go_roundw
        case rel => exact ⟨k + 1, by omega, by go_num, HK2, e3⟩
        case measure => simp [intOf]; omega
      · have HK2 := Lib.hid (firstR_at HK.out hx.out hq)
        rw [hq] at CC
        clear hq
        go_wp2_with fail
        (with_reducible refine CC.out.mono ?_)
        rintro e w2 ⟨rfl, e2⟩
        have e3 := he.trans e2
        go_wp2_with fail
        go_ret
        exact ⟨ret_int HK2.out.symm, e3⟩
    · have HK2 := HK.out
      rw [List.take_of_length_le (by omega)] at HK2
      have HN := Lib.hid (firstR_none HK2)
      clear HK2
      go_wp2_with fail
      go_ret
      exact ⟨ret_int HN.out.symm, he⟩

set_option maxHeartbeats 1000000 in
theorem indexDet_ok (a : Option Addr) (c : Nat) (m : List (List Int)) (p : Addr) (F : List Int → Bool) (w : World) (h : MatR w a m) (hl : m.length ≤ 1099511627776)
    (hF : ∀ (wr : World) (ra : Option Addr) (rc : Nat) (xs : List Int), Dr w wr → xs ∈ m → Vals wr ra (I xs) → Calls Try.prog 68 #[.slice ra xs.length rc, .pointer (some p)] wr (Quiet wr (.bool (F xs)))) :
    Calls Try.prog 67 #[.slice a m.length c, .func (.func 68) #[] #[.pointer (some p)]] w (Quiet w (.int .i64 (firstR m F))) := by
  have HF := Lib.hid hF
  clear hF
  go_enter Try.func67, Try.ntmps67
  go_wp2
  go_loopw [8] (fun i wr => ∃ k : Nat, k ≤ m.length ∧ i = .int .i64 k ∧ Hid (∀ r ∈ m.take k, F r = false) ∧ Dr w wr) (fun i _ => m.length - (intOf i).toNat)
  case atStart => exact ⟨0, Nat.zero_le _, rfl, fun r hr => by simp at hr, Dr.refl _⟩
  case round =>
    obtain ⟨k, hk, rfl, HK, he⟩ := hrel
    by_cases hlt : k < m.length
    · obtain ⟨b, o, ra, rc, xs, rfl, hb, hx, hc, hrow⟩ := (h.ext he.ext).at_ hlt
      have CC := Lib.hid (HF.out wr ra rc xs he (List.mem_of_getElem? hx.out) hrow)
      cases hq : F xs
      · have HK2 : Hid (∀ r ∈ m.take (k + 1), F r = false) := mem_take_snoc HK.out hx.out hq
        rw [hq] at CC
        clear hq
        go_wp2_with fail
        (with_reducible refine CC.out.mono ?_)
        rintro e w2 ⟨rfl, e2⟩
        have e3 := he.trans e2
        go_wp2_with fail
        go_roundw
        case rel => exact ⟨k + 1, by omega, by go_num, HK2, e3⟩
        case measure => simp [intOf]; omega
      · have HK2 := Lib.hid (firstR_at HK.out hx.out hq)
        rw [hq] at CC
        clear hq
        go_wp2_with fail
        (with_reducible refine CC.out.mono ?_)
        rintro e w2 ⟨rfl, e2⟩
        have e3 := he.trans e2
        go_wp2_with fail
        go_ret
        exact ⟨ret_int HK2.out.symm, e3⟩
    · have HK2 := HK.out
      rw [List.take_of_length_le (by omega)] at HK2
      have HN := Lib.hid (firstR_none HK2)
      clear HK2
      go_wp2_with fail
      go_ret
      exact ⟨ret_int HN.out.symm, he⟩

theorem freeFunc_ok (ra : Option Addr) (rc : Nat) (xs : List Int) (pb : Nat) (k : Int) (w : World) (h : Vals w ra (I xs)) (hl : xs.length ≤ 1099511627776) (hc : w.cell? ⟨pb, 0, none⟩ = some (.int .i64 k)) :
    Calls Try.prog 97 #[.slice ra xs.length rc, .pointer (some ⟨pb, 0, none⟩)] w (Quiet w (.bool (leadI xs == k))) := by
  have Q : Hid (∀ n, Calls Try.prog 56 #[.slice ra xs.length rc] (w.drewN n) fun e w' => e = .returned (.int .i64 (leadI xs)) ∧ w.drewN n = w') := fun n => implLeadingIndex_ok _ _ _ _ (h.ext ((Ext.refl w).drewN n)) hl
  go_enter Try.func97, Try.ntmps97
  go_wp2_with fail
  go_quiet ((go_at_call 56; exact Calls.same_quiet (Q.out _)))
  go_wp2_with fail
  go_ret
  exact ⟨rfl, _, rfl⟩

theorem containsFree_ok (a : Option Addr) (c : Nat) (m : List (List Int)) (pb : Nat) (k : Nat) (w : World) (h : MatR w a m) (hl : m.length ≤ 1048576) (hr : ∀ xs ∈ m, xs.length ≤ 1048576) (hld : ∀ xs ∈ m, ld xs < xs.length) (hc : w.cell? ⟨pb, 0, none⟩ = some (.int .i64 k)) :
    Calls Try.prog 96 #[.slice a m.length c, .func (.func 97) #[] #[.pointer (some ⟨pb, 0, none⟩)]] w (Quiet w (.bool (!isFree m k))) := by
  have Q := Lib.hid (indexFree_ok a c m ⟨pb, 0, none⟩ (fun xs => leadI xs == (k : Int)) w h (by omega) (fun wr ra rc xs hd hx hv => freeFunc_ok ra rc xs pb k wr hv (Nat.le_trans (hr xs hx) (by omega)) (hd.ext.cell hc)))
  have hF : ∀ xs ∈ m, (leadI xs == (k : Int)) = decide (ld xs = k) := fun xs hx => by
    rw [leadI_nat rfl (hld xs hx)]
    by_cases e : ld xs = k
    · simp [e]
    · simp [e]; omega
  have HB : Hid (decide (0 ≤ firstR m (fun xs => leadI xs == (k : Int))) = !isFree m k) := by
    unfold firstR isFree
    have e : m.all (fun r => !(leadI r == (k : Int))) = m.all (fun r => decide (ld r ≠ k)) := by
      rw [Bool.eq_iff_iff, List.all_eq_true, List.all_eq_true]
      refine ⟨fun h x hx => ?_, fun h x hx => ?_⟩
      · have := h x hx; rw [hF x hx] at this; simpa using this
      · have := h x hx; rw [hF x hx]; simpa using this
    rw [e]
    cases m.all (fun r => decide (ld r ≠ k))
    · simp [Hid]
    · simp [Hid]
  clear hr hld hF h hc
  obtain ⟨q, hq⟩ : ∃ q, Hid (q = firstR m (fun xs => leadI xs == (k : Int))) := ⟨_, rfl⟩
  rw [← hq.out] at Q HB
  by_cases h0 : 0 ≤ q
  · rw [decide_eq_true h0] at HB
    go_enter Try.func96, Try.ntmps96
    go_wp2_with fail
    (with_reducible refine Q.out.mono ?_)
    rintro e w2 ⟨rfl, e2⟩
    go_wp2_with fail
    go_ret
    rw [← HB.out]
    exact ⟨rfl, e2⟩
  · rw [decide_eq_false h0] at HB
    go_enter Try.func96, Try.ntmps96
    go_wp2_with fail
    (with_reducible refine Q.out.mono ?_)
    rintro e w2 ⟨rfl, e2⟩
    go_wp2_with fail
    go_ret
    rw [← HB.out]
    exact ⟨ret_bool (decide_eq_false (by omega)), e2⟩

set_option maxHeartbeats 4000000 in
theorem freeColumns_ok (a : Option Addr) (c : Nat) (m : List (List Int)) (n : Nat) (w : World) (h : MatR w a m) (hl : m.length ≤ 1048576) (hr : ∀ xs ∈ m, xs.length ≤ 1048576) (hld : ∀ xs ∈ m, ld xs < xs.length) (hn : n ≤ 40) :
    Calls Try.prog 77 #[.slice a m.length c, .int .i64 n] w (NewI w (freeTo m n)) := by
  have HC : Hid (∀ (W : World) (pb k : Nat), Ext w W → W.cell? ⟨pb, 0, none⟩ = some (.int .i64 k) → Calls Try.prog 96 #[.slice a m.length c, .func (.func 97) #[] #[.pointer (some ⟨pb, 0, none⟩)]] W (Quiet W (.bool (!isFree m k)))) :=
    fun W pb k hW hc => containsFree_ok a c m pb k W (h.ext hW) hl hr hld hc
  clear hr hld
  go_enter Try.func77, Try.ntmps77
  go_wp2_with fail
  go_loopw [5, 8] (fun v i wr => ∃ (k : Nat) (a1 : Option Addr) (c1 : Nat), k ≤ n ∧ i = .int .i64 k ∧ v = .slice a1 (freeTo m k).length c1 ∧ OwnI wr w.heap.size a1 c1 (freeTo m k) ∧ Ext w wr) (fun _ i _ => n - (intOf i).toNat)
  case atStart => exact ⟨0, none, 0, Nat.zero_le _, rfl, rfl, OwnI.nil _ _, Ext.refl _⟩
  case round =>
    obtain ⟨k, a1, c1, hk, rfl, rfl, ho, he⟩ := hrel
    have hfl := freeTo_len m k
    by_cases hlt : k < n
    · have E1 : Ext w (wr.alloc (.cells #[.int .i64 k] 3)) := he.alloc _
      have c0 : (wr.alloc (.cells #[.int .i64 k] 3)).cell? ⟨wr.heap.size, 0, none⟩ = some (.int .i64 k) := by simp
      have O1 := ho.ext ((Ext.refl wr).alloc (.cells #[.int .i64 k] 3))
      have CC := Lib.hid (HC.out _ wr.heap.size k E1 c0)
      have HE1 := Lib.hid E1
      have HO1 := Lib.hid O1
      clear E1 O1 he ho
      cases hq : isFree m k
      · have HS := Lib.hid (freeTo_no hq)
        rw [hq] at CC
        clear hq
        go_wp2_with fail
        (with_reducible refine CC.out.mono ?_)
        rintro e w2 ⟨rfl, e2⟩
        have E2 := HE1.out.trans e2.ext
        have O2 := HO1.out.ext e2.ext
        go_wp2_with fail
        go_roundw
        case rel => exact ⟨k + 1, a1, c1, by omega, by go_num, by rw [HS.out], by rw [HS.out]; exact O2, E2⟩
        case measure => simp [intOf]; omega
      · have HS := Lib.hid (freeTo_yes hq)
        rw [hq] at CC
        clear hq
        go_wp2_with fail
        (with_reducible refine CC.out.mono ?_)
        rintro e w2 ⟨rfl, e2⟩
        have E2 := HE1.out.trans e2.ext
        have O2 := HO1.out.ext e2.ext
        have c2 := e2.ext.cell c0
        clear CC HE1 HO1 e2 c0
        go_wp2_with (at_builtin; refine wpList_appI _ rfl _ _ rfl w.heap.size _ _ (freeTo m k) rfl (O2.ext ((Ext.refl w2).alloc _)) _ _ [(k : Int)] rfl (Vals.new w2 [.int .i64 (k : Int)] _) (freeTo m (k + 1)) HS.out (by simp; omega) (by have := E2.size_le; simp; omega) ?_)
        intro a4 c4 w4 o4 g4 _
        have e4 := (E2.alloc (.cells (I [(k : Int)]).toArray 3)).grown g4 (fun k hk => (O2.block k hk).1)
        clear g4 O2 E2 c2
        go_wp2_with fail
        go_roundw
        case rel => exact ⟨k + 1, a4, c4, by omega, by go_num, rfl, o4, e4⟩
        case measure => simp [intOf]; omega
    · obtain rfl : k = n := by omega
      go_wp2_with fail
      go_ret
      exact ⟨a1, c1, rfl, ho, he⟩

def fcB (n : Int) (m : List (List Int)) : List Int := if validB n m then freeTo m n.toNat else []
theorem RM.ld_all {n : Nat} {m : List (List Int)} (h : RM n m) : ∀ xs ∈ m, ld xs < xs.length := by
  intro xs hx
  obtain ⟨i, hi, rfl⟩ := List.mem_iff_getElem.1 hx
  have h1 := h.ld_lt hi
  have h2 := (h.1.getD hi).2.1
  rw [show m.getD i [] = m[i] by simp [List.getD, hi]] at h1 h2
  omega

set_option maxHeartbeats 4000000 in
theorem implFreeColumns_ok (n : Int) (a : Option Addr) (c : Nat) (m : List (List Int)) (w : World) (h : MatR w a m) (hl : m.length ≤ 1048576) (hr : ∀ xs ∈ m, xs.length ≤ 1048576) :
    Calls Try.prog 34 #[bsV n a c m] w (NewI w (fcB n m)) := by
  have E : Ext w (w.alloc (.cells #[.int .i64 n, .slice a m.length c] 31)) := (Ext.refl w).alloc _
  have Q := Lib.hid (implIsValidBasis_ok n a c m _ (h.ext E) hl hr)
  have HE := Lib.hid E
  have HR := Lib.hid hr
  clear hr E
  cases q1 : validB n m
  · have HF : Hid (fcB n m = []) := by unfold fcB; rw [q1]; exact Lib.hid rfl
    rw [q1] at Q
    go_enter Try.func34, Try.ntmps34
    go_wp2_with fail
    (with_reducible refine Q.out.mono ?_)
    rintro e w1 ⟨rfl, e1⟩
    go_wp2_with fail
    go_ret
    rw [HF.out]
    exact ⟨none, 0, rfl, OwnI.nil _ _, HE.out.trans e1⟩
  · have HF : Hid (fcB n m = freeTo m n.toNat) := by unfold fcB; rw [q1]; exact Lib.hid rfl
    obtain ⟨n0, n1, hRM, _⟩ := validB_true.1 q1
    have HLD := Lib.hid hRM.ld_all
    obtain ⟨k, rfl⟩ := Int.eq_ofNat_of_zero_le n0
    rw [show (k : Int).toNat = k by omega] at HF
    rw [q1] at Q
    clear q1 hRM
    go_enter Try.func34, Try.ntmps34
    go_wp2_with fail
    (with_reducible refine Q.out.mono ?_)
    rintro e w1 ⟨rfl, e1⟩
    have E1 := HE.out.trans e1
    have c0 := e1.cell (p := ⟨w.heap.size, 0, none⟩) (v := .int .i64 k) (by simp)
    have c1 := e1.cell (p := ⟨w.heap.size, 1, none⟩) (v := .slice a m.length c) (by simp)
    go_wp2_with fail
    (with_reducible refine (freeColumns_ok _ _ m k _ (h.ext E1) hl HR.out HLD.out (by omega)).mono ?_)
    rintro e w2 ⟨a2, c2, rfl, o2, e2⟩
    go_wp2_with fail
    go_ret
    rw [HF.out]
    exact ⟨a2, c2, rfl, o2.more E1.size_le, E1.trans e2⟩

/-- The first i rows begin in other columns than k. -/
def freeI (m : List (List Int)) (k i : Nat) : Bool := (m.take i).all (fun r => decide (ld r ≠ k))
theorem freeI_succ {m : List (List Int)} {k i : Nat} {xs : List Int} (hx : m[i]? = some xs) : freeI m k (i + 1) = (freeI m k i && decide (ld xs ≠ k)) := by
  unfold freeI
  rw [List.take_add_one, hx, List.all_append]
  simp

set_option maxHeartbeats 4000000 in
set_option maxRecDepth 100000 in
theorem specFreeColumns_ok (n : Int) (a : Option Addr) (c : Nat) (m : List (List Int)) (w : World) (h : MatR w a m) (hl : m.length ≤ 1048576) (hr : ∀ xs ∈ m, xs.length ≤ 1048576) :
    Calls Try.prog 33 #[bsV n a c m] w (NewI w (fcB n m)) := by
  have E : Ext w ((w.alloc (.cells #[.int .i64 n, .slice a m.length c] 31)).alloc (.cells #[] 3)) := ((Ext.refl w).alloc _).alloc _
  have c0 : (w.alloc (.cells #[.int .i64 n, .slice a m.length c] 31)).cell? ⟨w.heap.size, 0, none⟩ = some (.int .i64 n) := by simp
  have c1 : (w.alloc (.cells #[.int .i64 n, .slice a m.length c] 31)).cell? ⟨w.heap.size, 1, none⟩ = some (.slice a m.length c) := by simp
  have o0 : OwnI ((w.alloc (.cells #[.int .i64 n, .slice a m.length c] 31)).alloc (.cells #[] 3)) (w.heap.size + 1) (some ⟨w.heap.size + 1, 0, none⟩) 0 [] := by
    have := OwnI.new (w.alloc (.cells #[.int .i64 n, .slice a m.length c] 31)) (w.alloc (.cells #[.int .i64 n, .slice a m.length c] 31)).heap.size [] (Nat.le_refl _) (by simp)
    simpa using this
  have Q : Hid (∀ W, Ext w W → Calls Try.prog 21 #[bsV n a c m] W (Gives W (.bool (validB n m)))) := fun W hW => specIsValidBasis_ok n a c m W (h.ext hW) hl hr
  have HR := Lib.hid hr
  have HE := Lib.hid E
  have HO := Lib.hid o0
  clear hr E o0
  cases q1 : validB n m
  · have HF : Hid (fcB n m = []) := by unfold fcB; rw [q1]; exact Lib.hid rfl
    rw [q1] at Q
    clear q1
    by_cases hn : 0 < n
    · go_enter Try.func33, Try.ntmps33
      go_wp2_with fail
      go_loopw [3, 4] (fun v i wr => i = .int .i64 0 ∧ v = .slice (some ⟨w.heap.size + 1, 0, none⟩) 0 0 ∧ wr = (w.alloc (.cells #[.int .i64 n, .slice a m.length c] 31)).alloc (.cells #[] 3)) (fun _ _ _ => 0)
      case atStart => exact ⟨rfl, rfl, rfl⟩
      case round =>
        obtain ⟨rfl, rfl, rfl⟩ := hrel
        go_wp2_with fail
        (with_reducible refine (Q.out _ HE.out).mono ?_)
        rintro e w1 ⟨rfl, e1⟩
        go_wp2_with fail
        go_ret
        rw [HF.out]
        exact ⟨_, _, rfl, (HO.out.ext e1).more (by omega), HE.out.trans e1⟩
    · go_enter Try.func33, Try.ntmps33
      go_wp2_with fail
      go_loopw [3, 4] (fun v i wr => i = .int .i64 0 ∧ v = .slice (some ⟨w.heap.size + 1, 0, none⟩) 0 0 ∧ wr = (w.alloc (.cells #[.int .i64 n, .slice a m.length c] 31)).alloc (.cells #[] 3)) (fun _ _ _ => 0)
      case atStart => exact ⟨rfl, rfl, rfl⟩
      case round =>
        obtain ⟨rfl, rfl, rfl⟩ := hrel
        go_wp2_with fail
        go_ret
        rw [HF.out]
        exact ⟨_, _, rfl, HO.out.more (by omega), HE.out⟩
  have HF : Hid (fcB n m = freeTo m n.toNat) := by unfold fcB; rw [q1]; exact Lib.hid rfl
  obtain ⟨n0, n1, hRM, _⟩ := validB_true.1 q1
  have HLD := Lib.hid hRM.ld_all
  obtain ⟨nn, rfl⟩ := Int.eq_ofNat_of_zero_le n0
  rw [show (nn : Int).toNat = nn by omega] at HF
  rw [q1] at Q
  clear q1 hRM
  have EB : Ext w (w.alloc (.cells #[.int .i64 (nn : Int), .slice a m.length c] 31)) := (Ext.refl w).alloc _
  have E0 : Ext (w.alloc (.cells #[.int .i64 (nn : Int), .slice a m.length c] 31)) ((w.alloc (.cells #[.int .i64 (nn : Int), .slice a m.length c] 31)).alloc (.cells #[] 3)) := (Ext.refl _).alloc _
  have hsz : (w.alloc (.cells #[.int .i64 (nn : Int), .slice a m.length c] 31)).heap.size ≤ w.heap.size + 1 := by simp
  go_enter Try.func33, Try.ntmps33
  go_wp2_with fail
  generalize w.alloc (.cells #[.int .i64 (nn : Int), .slice a m.length c] 31) = W at *
  go_loopw [3, 4] (fun v i wr => ∃ (k : Nat) (a1 : Option Addr) (c1 : Nat), k ≤ nn ∧ i = .int .i64 k ∧ v = .slice a1 (freeTo m k).length c1 ∧ OwnI wr (w.heap.size + 1) a1 c1 (freeTo m k) ∧ Ext W wr) (fun _ i _ => nn - (intOf i).toNat)
  case atStart => exact ⟨0, some ⟨w.heap.size + 1, 0, none⟩, 0, Nat.zero_le _, rfl, rfl, HO.out, E0⟩
  case round =>
    obtain ⟨k, a1, c1', hk, rfl, rfl, ho, he⟩ := hrel
    have hfl := freeTo_len m k
    have EW := EB.trans he
    have d0 := he.cell c0
    have d1 := he.cell c1
    have HOO := Lib.hid ho
    clear ho
    by_cases hlt : k < nn
    rotate_left
    · obtain rfl : k = nn := by omega
      go_wp2_with fail
      go_ret
      rw [HF.out]
      exact ⟨a1, c1', rfl, HOO.out.more (by omega), EW⟩
    have i0 : (k : Int) < (nn : Int) := by omega
    go_wp2_with fail
    (with_reducible refine (Q.out _ EW).mono ?_)
    rintro e w2 ⟨rfl, e2⟩
    have E2 := he.trans e2
    have EW2 := EW.trans e2
    replace d0 := e2.cell d0
    replace d1 := e2.cell d1
    have zb : w.heap.size + 1 ≤ w2.heap.size := by have := World.block_lt_of_cell? _ _ d0; show w.heap.size < _; exact this
    have O2 := Lib.hid (HOO.out.ext e2)
    clear HOO e2 he EW
    go_wp2_with fail
    go_loop [5, 6] (fun f i => ∃ j : Nat, j ≤ m.length ∧ i = .int .i64 j ∧ f = .bool (freeI m k j)) (fun _ i => m.length - (intOf i).toNat)
    case atStart => exact ⟨0, Nat.zero_le _, rfl, rfl⟩
    case round =>
      obtain ⟨j, hj, rfl, rfl⟩ := hrel
      by_cases hjl : j < m.length
      · obtain ⟨b2, o1, ra, rc, xs, rfl, hb, hx, hc, hrow⟩ := (h.ext EW2).at_ hjl
        have hxm := HR.out xs (List.mem_of_getElem? hx.out)
        have hxl := HLD.out xs (List.mem_of_getElem? hx.out)
        obtain ⟨p, hp⟩ : ∃ p, Hid (p = ld xs) := ⟨_, rfl⟩
        have HP : Hid (leadI xs = (p : Int)) := leadI_nat hp.out.symm (by rw [hp.out]; exact hxl)
        have HS : Hid (freeI m k (j + 1) = (freeI m k j && decide (p ≠ k))) := by rw [freeI_succ hx.out, ← hp.out]; exact Lib.hid rfl
        by_cases hpk : p = k
        · have hpk' : ((p : Int) == (k : Int)) = true := by simp [hpk]
          have HS2 : Hid (freeI m k (j + 1) = false) := by rw [HS.out, decide_eq_false (by simp [hpk]), Bool.and_false]; exact Lib.hid rfl
          clear hpk
          go_wp2_with (go_at_call 74; (with_reducible refine (specLeadingIndex_ok _ _ _ _ hrow (by omega)).mono ?_); rintro e w' ⟨rfl, rfl⟩; rw [HP.out])
          go_round
          case rel => exact ⟨j + 1, by omega, by go_num, by rw [HS2.out]⟩
          case measure => simp [intOf]; omega
        · have hpk' : ((p : Int) == (k : Int)) = false := by simp; omega
          have HS2 : Hid (freeI m k (j + 1) = freeI m k j) := by rw [HS.out, decide_eq_true hpk, Bool.and_true]; exact Lib.hid rfl
          clear hpk
          go_wp2_with (go_at_call 74; (with_reducible refine (specLeadingIndex_ok _ _ _ _ hrow (by omega)).mono ?_); rintro e w' ⟨rfl, rfl⟩; rw [HP.out])
          go_round
          case rel => exact ⟨j + 1, by omega, by go_num, by rw [HS2.out]⟩
          case measure => simp [intOf]; omega
      · have HFI : Hid (freeI m k j = isFree m k) := by unfold freeI isFree; rw [List.take_of_length_le (by omega)]; exact Lib.hid rfl
        cases hq : freeI m k j
        · have HS := Lib.hid (freeTo_no (HFI.out ▸ hq))
          clear hq
          go_wp2_with fail
          go_roundw
          case rel => exact ⟨k + 1, a1, c1', by omega, by go_num, by rw [HS.out], by rw [HS.out]; exact O2.out, E2⟩
          case measure => simp [intOf]; omega
        · have HS := Lib.hid (freeTo_yes (HFI.out ▸ hq))
          clear hq
          go_wp2_with (at_builtin; refine wpList_appI _ rfl _ _ rfl (w.heap.size + 1) _ _ (freeTo m k) rfl (O2.out.ext ((Ext.refl _).alloc _)) _ _ [(k : Int)] rfl (Vals.new _ [.int .i64 (k : Int)] _) (freeTo m (k + 1)) HS.out (by simp; omega) (by simp; omega) ?_)
          intro a4 c4 w4 o4 g4 _
          have e4 := (E2.alloc (.cells (I [(k : Int)]).toArray 3)).grown g4 (fun k hk => by have := (O2.out.block k hk).1; omega)
          go_wp2_with fail
          go_roundw
          case rel => exact ⟨k + 1, a4, c4, by omega, by go_num, rfl, o4, e4⟩
          case measure => simp [intOf]; omega

end Go.Proofs.Ytkkblllhjcjcjaa
