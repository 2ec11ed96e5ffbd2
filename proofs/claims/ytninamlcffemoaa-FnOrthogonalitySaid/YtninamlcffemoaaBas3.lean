/- Contracts of FreeColumns and Coordinates (program and reference); of slices.IndexFunc over rows. -/
import Derived.Test.YtninamlcffemoaaBas2
namespace Go.Proofs.Ytninamlcffemoaa
open Go.RowKit
set_option linter.unusedVariables false
set_option maxRecDepth 20000

/-- A call hands back a new slice of integers and a bool. -/
def NewIF (w : World) (xs : List Int) (ok : Bool) (e : Ending) (w' : World) : Prop := ∃ a c, e = .returned (.tuple #[.slice a xs.length c, .bool ok]) ∧ OwnI w' w.heap.size a c xs ∧ Ext w w'

/-- The index of the first row for which F holds, or -1. -/
def firstR (m : List (List Int)) (F : List Int → Bool) : Int := if m.all (fun r => !F r) then -1 else (m.findIdx F : Nat)
theorem firstR_at {m : List (List Int)} {F : List Int → Bool} {k : Nat} {xs : List Int} (h : ∀ r ∈ m.take k, F r = false) (hx : m[k]? = some xs) (hf : F xs = true) : firstR m F = k := by
  obtain ⟨hk, hxx⟩ := List.getElem?_eq_some_iff.1 hx
  unfold firstR
  rw [if_neg]
  · have : m.findIdx F = k := by
      rw [List.findIdx_eq hk]
      refine ⟨by rw [hxx]; exact hf, fun j hj => ?_⟩
      exact h _ (List.mem_iff_getElem.2 ⟨j, by simp; omega, by simp⟩)
    rw [this]
  · intro hall
    have := List.all_eq_true.1 hall xs (List.mem_of_getElem? hx)
    rw [hf] at this
    cases this
theorem firstR_none {m : List (List Int)} {F : List Int → Bool} (h : ∀ r ∈ m, F r = false) : firstR m F = -1 := by
  unfold firstR
  rw [if_pos]
  rw [List.all_eq_true]
  intro r hr
  rw [h r hr]
  rfl

set_option maxHeartbeats 1000000 in
theorem indexFree_ok (a : Option Addr) (c : Nat) (m : List (List Int)) (p : Addr) (F : List Int → Bool) (w : World) (h : MatR w a m) (hl : m.length ≤ 1099511627776)
    (hF : ∀ (wr : World) (ra : Option Addr) (rc : Nat) (xs : List Int), Dr w wr → xs ∈ m → Vals wr ra (I xs) → Calls Try.prog 159 #[.slice ra xs.length rc, .pointer (some p)] wr (Quiet wr (.bool (F xs)))) :
    Calls Try.prog 83 #[.slice a m.length c, .func (.func 159) #[] #[.pointer (some p)]] w (Quiet w (.int .i64 (firstR m F))) := by
  have HF := Lib.hid hF
  clear hF
  go_enter Try.func83, Try.ntmps83
  go_wp2
  go_loopw [8] (fun i wr => ∃ k : Nat, k ≤ m.length ∧ i = .int .i64 k ∧ Hid (∀ r ∈ m.take k, F r = false) ∧ Dr w wr) (fun i _ => m.length - (intOf i).toNat)
  case atStart => exact ⟨0, Nat.zero_le _, rfl, fun r hr => by simp at hr, Dr.refl _⟩
  case round =>
    obtain ⟨k, hk, rfl, HK, he⟩ := hrel
    by_cases hlt : k < m.length
    · obtain ⟨b, o, ra, rc, xs, rfl, hb, hx, hc, hrow⟩ := (h.ext he.ext).at_ hlt
      have CC := Lib.hid (HF.out wr ra rc xs he (List.mem_of_getElem? hx.out) hrow)
      cases hq : F xs
      · have HK2 : Hid (∀ r ∈ m.take (k + 1), F r = false) := mem_take_snoc HK.out hx.out hq
        rw [hq] at CC
        clear hq
        go_wp2_with fail
        (with_reducible refine CC.out.mono ?_)
        rintro e w2 ⟨rfl, e2⟩
        have e3 := he.trans e2
        go_wp2_with fail
        go_roundw
        case rel => exact ⟨k + 1, by omega, by go_num, HK2, e3⟩
        case measure => simp [intOf]; omega
      · have HK2 := Lib.hid (firstR_at HK.out hx.out hq)
        rw [hq] at CC
        clear hq
        go_wp2_with fail
        (with_reducible refine CC.out.mono ?_)
        rintro e w2 ⟨rfl, e2⟩
        have e3 := he.trans e2
        go_wp2_with fail
        go_ret
        exact ⟨ret_int HK2.out.symm, e3⟩
    · have HK2 := HK.out
      rw [List.take_of_length_le (by omega)] at HK2
      have HN := Lib.hid (firstR_none HK2)
      clear HK2
      go_wp2_with fail
      go_ret
      exact ⟨ret_int HN.out.symm, he⟩

set_option maxHeartbeats 1000000 in
theorem indexDet_ok (a : Option Addr) (c : Nat) (m : List (List Int)) (p : Addr) (F : List Int → Bool) (w : World) (h : MatR w a m) (hl : m.length ≤ 1099511627776)
    (hF : ∀ (wr : World) (ra : Option Addr) (rc : Nat) (xs : List Int), Dr w wr → xs ∈ m → Vals wr ra (I xs) → Calls Try.prog 84 #[.slice ra xs.length rc, .pointer (some p)] wr (Quiet wr (.bool (F xs)))) :
    Calls Try.prog 83 #[.slice a m.length c, .func (.func 84) #[] #[.pointer (some p)]] w (Quiet w (.int .i64 (firstR m F))) := by
  have HF := Lib.hid hF
  clear hF
  go_enter Try.func83, Try.ntmps83
  go_wp2
  go_loopw [8] (fun i wr => ∃ k : Nat, k ≤ m.length ∧ i = .int .i64 k ∧ Hid (∀ r ∈ m.take k, F r = false) ∧ Dr w wr) (fun i _ => m.length - (intOf i).toNat)
  case atStart => exact ⟨0, Nat.zero_le _, rfl, fun r hr => by simp at hr, Dr.refl _⟩
  case round =>
    obtain ⟨k, hk, rfl, HK, he⟩ := hrel
    by_cases hlt : k < m.length
    · obtain ⟨b, o, ra, rc, xs, rfl, hb, hx, hc, hrow⟩ := (h.ext he.ext).at_ hlt
      have CC := Lib.hid (HF.out wr ra rc xs he (List.mem_of_getElem? hx.out) hrow)
      cases hq : F xs
      · have HK2 : Hid (∀ r ∈ m.take (k + 1), F r = false) := mem_take_snoc HK.out hx.out hq
        rw [hq] at CC
        clear hq
        go_wp2_with fail
        (with_reducible refine CC.out.mono ?_)
        rintro e w2 ⟨rfl, e2⟩
        have e3 := he.trans e2
        go_wp2_with fail
        go_roundw
        case rel => exact ⟨k + 1, by omega, by go_num, HK2, e3⟩
        case measure => simp [intOf]; omega
      · have HK2 := Lib.hid (firstR_at HK.out hx.out hq)
        rw [hq] at CC
        clear hq
        go_wp2_with fail
        (with_reducible refine CC.out.mono ?_)
        rintro e w2 ⟨rfl, e2⟩
        have e3 := he.trans e2
        go_wp2_with fail
        go_ret
        exact ⟨ret_int HK2.out.symm, e3⟩
    · have HK2 := HK.out
      rw [List.take_of_length_le (by omega)] at HK2
      have HN := Lib.hid (firstR_none HK2)
      clear HK2
      go_wp2_with fail
      go_ret
      exact ⟨ret_int HN.out.symm, he⟩

theorem freeFunc_ok (ra : Option Addr) (rc : Nat) (xs : List Int) (pb : Nat) (k : Int) (w : World) (h : Vals w ra (I xs)) (hl : xs.length ≤ 1099511627776) (hc : w.cell? ⟨pb, 0, none⟩ = some (.int .i64 k)) :
    Calls Try.prog 159 #[.slice ra xs.length rc, .pointer (some ⟨pb, 0, none⟩)] w (Quiet w (.bool (leadI xs == k))) := by
  have Q : Hid (∀ n, Calls Try.prog 39 #[.slice ra xs.length rc] (w.drewN n) fun e w' => e = .returned (.int .i64 (leadI xs)) ∧ w.drewN n = w') := fun n => implLeadingIndex_ok _ _ _ _ (h.ext ((Ext.refl w).drewN n)) hl
  go_enter Try.func159, Try.ntmps159
  go_wp2_with fail
  go_quiet ((go_at_call 39; exact Calls.same_quiet (Q.out _)))
  go_wp2_with fail
  go_ret
  exact ⟨rfl, _, rfl⟩

theorem containsFree_ok (a : Option Addr) (c : Nat) (m : List (List Int)) (pb : Nat) (k : Nat) (w : World) (h : MatR w a m) (hl : m.length ≤ 1048576) (hr : ∀ xs ∈ m, xs.length ≤ 1048576) (hld : ∀ xs ∈ m, ld xs < xs.length) (hc : w.cell? ⟨pb, 0, none⟩ = some (.int .i64 k)) :
    Calls Try.prog 158 #[.slice a m.length c, .func (.func 159) #[] #[.pointer (some ⟨pb, 0, none⟩)]] w (Quiet w (.bool (!isFree m k))) := by
  have Q := Lib.hid (indexFree_ok a c m ⟨pb, 0, none⟩ (fun xs => leadI xs == (k : Int)) w h (by omega) (fun wr ra rc xs hd hx hv => freeFunc_ok ra rc xs pb k wr hv (Nat.le_trans (hr xs hx) (by omega)) (hd.ext.cell hc)))
  have hF : ∀ xs ∈ m, (leadI xs == (k : Int)) = decide (ld xs = k) := fun xs hx => by
    rw [leadI_nat rfl (hld xs hx)]
    by_cases e : ld xs = k
    · simp [e]
    · simp [e]; omega
  have HB : Hid (decide (0 ≤ firstR m (fun xs => leadI xs == (k : Int))) = !isFree m k) := by
    unfold firstR isFree
    have e : m.all (fun r => !(leadI r == (k : Int))) = m.all (fun r => decide (ld r ≠ k)) := by
      rw [Bool.eq_iff_iff, List.all_eq_true, List.all_eq_true]
      refine ⟨fun h x hx => ?_, fun h x hx => ?_⟩
      · have := h x hx; rw [hF x hx] at this; simpa using this
      · have := h x hx; rw [hF x hx]; simpa using this
    rw [e]
    cases m.all (fun r => decide (ld r ≠ k))
    · simp [Hid]
    · simp [Hid]
  clear hr hld hF h hc
  obtain ⟨q, hq⟩ : ∃ q, Hid (q = firstR m (fun xs => leadI xs == (k : Int))) := ⟨_, rfl⟩
  rw [← hq.out] at Q HB
  by_cases h0 : 0 ≤ q
  · rw [decide_eq_true h0] at HB
    go_enter Try.func158, Try.ntmps158
    go_wp2_with fail
    (with_reducible refine Q.out.mono ?_)
    rintro e w2 ⟨rfl, e2⟩
    go_wp2_with fail
    go_ret
    rw [← HB.out]
    exact ⟨rfl, e2⟩
  · rw [decide_eq_false h0] at HB
    go_enter Try.func158, Try.ntmps158
    go_wp2_with fail
    (with_reducible refine Q.out.mono ?_)
    rintro e w2 ⟨rfl, e2⟩
    go_wp2_with fail
    go_ret
    rw [← HB.out]
    exact ⟨ret_bool (decide_eq_false (by omega)), e2⟩

set_option maxHeartbeats 4000000 in
theorem freeColumns_ok (a : Option Addr) (c : Nat) (m : List (List Int)) (n : Nat) (w : World) (h : MatR w a m) (hl : m.length ≤ 1048576) (hr : ∀ xs ∈ m, xs.length ≤ 1048576) (hld : ∀ xs ∈ m, ld xs < xs.length) (hn : n ≤ 40) :
    Calls Try.prog 137 #[.slice a m.length c, .int .i64 n] w (NewI w (freeTo m n)) := by
  have HC : Hid (∀ (W : World) (pb k : Nat), Ext w W → W.cell? ⟨pb, 0, none⟩ = some (.int .i64 k) → Calls Try.prog 158 #[.slice a m.length c, .func (.func 159) #[] #[.pointer (some ⟨pb, 0, none⟩)]] W (Quiet W (.bool (!isFree m k)))) :=
    fun W pb k hW hc => containsFree_ok a c m pb k W (h.ext hW) hl hr hld hc
  clear hr hld
  go_enter Try.func137, Try.ntmps137
  go_wp2_with fail
  go_loopw [5, 8] (fun v i wr => ∃ (k : Nat) (a1 : Option Addr) (c1 : Nat), k ≤ n ∧ i = .int .i64 k ∧ v = .slice a1 (freeTo m k).length c1 ∧ OwnI wr w.heap.size a1 c1 (freeTo m k) ∧ Ext w wr) (fun _ i _ => n - (intOf i).toNat)
  case atStart => exact ⟨0, none, 0, Nat.zero_le _, rfl, rfl, OwnI.nil _ _, Ext.refl _⟩
  case round =>
    obtain ⟨k, a1, c1, hk, rfl, rfl, ho, he⟩ := hrel
    have hfl := freeTo_len m k
    by_cases hlt : k < n
    · have E1 : Ext w (wr.alloc (.cells #[.int .i64 k] 3)) := he.alloc _
      have c0 : (wr.alloc (.cells #[.int .i64 k] 3)).cell? ⟨wr.heap.size, 0, none⟩ = some (.int .i64 k) := by simp
      have O1 := ho.ext ((Ext.refl wr).alloc (.cells #[.int .i64 k] 3))
      have CC := Lib.hid (HC.out _ wr.heap.size k E1 c0)
      have HE1 := Lib.hid E1
      have HO1 := Lib.hid O1
      clear E1 O1 he ho
      cases hq : isFree m k
      · have HS := Lib.hid (freeTo_no hq)
        rw [hq] at CC
        clear hq
        go_wp2_with fail
        (with_reducible refine CC.out.mono ?_)
        rintro e w2 ⟨rfl, e2⟩
        have E2 := HE1.out.trans e2.ext
        have O2 := HO1.out.ext e2.ext
        go_wp2_with fail
        go_roundw
        case rel => exact ⟨k + 1, a1, c1, by omega, by go_num, by rw [HS.out], by rw [HS.out]; exact O2, E2⟩
        case measure => simp [intOf]; omega
      · have HS := Lib.hid (freeTo_yes hq)
        rw [hq] at CC
        clear hq
        go_wp2_with fail
        (with_reducible refine CC.out.mono ?_)
        rintro e w2 ⟨rfl, e2⟩
        have E2 := HE1.out.trans e2.ext
        have O2 := HO1.out.ext e2.ext
        have c2 := e2.ext.cell c0
        clear CC HE1 HO1 e2 c0
        go_wp2_with (at_builtin; refine wpList_appI _ rfl _ _ rfl w.heap.size _ _ (freeTo m k) rfl (O2.ext ((Ext.refl w2).alloc _)) _ _ [(k : Int)] rfl (Vals.new w2 [.int .i64 (k : Int)] _) (freeTo m (k + 1)) HS.out (by simp; omega) (by have := E2.size_le; simp; omega) ?_)
        intro a4 c4 w4 o4 g4 _
        have e4 := (E2.alloc (.cells (I [(k : Int)]).toArray 3)).grown g4 (fun k hk => (O2.block k hk).1)
        clear g4 O2 E2 c2
        go_wp2_with fail
        go_roundw
        case rel => exact ⟨k + 1, a4, c4, by omega, by go_num, rfl, o4, e4⟩
        case measure => simp [intOf]; omega
    · obtain rfl : k = n := by omega
      go_wp2_with fail
      go_ret
      exact ⟨a1, c1, rfl, ho, he⟩

def fcB (n : Int) (m : List (List Int)) : List Int := if validB n m then freeTo m n.toNat else []
theorem RM.ld_all {n : Nat} {m : List (List Int)} (h : RM n m) : ∀ xs ∈ m, ld xs < xs.length := by
  intro xs hx
  obtain ⟨i, hi, rfl⟩ := List.mem_iff_getElem.1 hx
  have h1 := h.ld_lt hi
  have h2 := (h.1.getD hi).2.1
  rw [show m.getD i [] = m[i] by simp [List.getD, hi]] at h1 h2
  omega

/-- The first i rows begin in other columns than k. -/
def freeI (m : List (List Int)) (k i : Nat) : Bool := (m.take i).all (fun r => decide (ld r ≠ k))
theorem freeI_succ {m : List (List Int)} {k i : Nat} {xs : List Int} (hx : m[i]? = some xs) : freeI m k (i + 1) = (freeI m k i && decide (ld xs ≠ k)) := by
  unfold freeI
  rw [List.take_add_one, hx, List.all_append]
  simp

end Go.Proofs.Ytninamlcffemoaa
