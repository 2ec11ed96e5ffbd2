/- Contracts of UnitVector (program and reference): the same text as in NulW, for seats that need no elimination. -/
import Derived.Test.YtkegknophppdgaaCode
namespace Go.Proofs.Ytkegknophppdgaa
open Go.RowKit
set_option linter.unusedVariables false
set_option maxRecDepth 20000

def unitV (n k : Nat) : List Int := (List.replicate n 0).set k 1
theorem unitV_length (n k : Nat) : (unitV n k).length = n := by simp [unitV]
theorem unitV_get {n k j : Nat} (hj : j < n) : (unitV n k)[j]? = some (if j = k then 1 else 0) := by
  unfold unitV
  by_cases e : j = k
  · subst e
    rw [List.getElem?_set_self (by simpa using hj), if_pos rfl]
  · rw [List.getElem?_set_ne (fun h => e h.symm), List.getElem?_replicate, if_pos hj, if_neg e]
theorem unitV_AllEl (n k : Nat) : AllEl (unitV n k) := by
  intro x hx
  obtain ⟨j, hj⟩ := List.mem_iff_getElem?.1 hx
  have hl := (List.getElem?_eq_some_iff.1 hj).1
  rw [unitV_length] at hl
  rw [unitV_get hl] at hj
  injection hj with hj
  rw [← hj]
  split <;> rfl

set_option maxHeartbeats 1000000 in
theorem implUnitVector_ok (n k : Nat) (w : World) (hk : k < n) (hn : n ≤ 40) : Calls Try.prog 104 #[.int .i64 n, .int .i64 k] w (NewI w (unitV n k)) := by
  have r1 : inR n 0 40 = true := inR_true.2 (by omega)
  have r2 : inR k 0 ((n : Int) - 1) = true := inR_true.2 (by omega)
  have hw1 : IntKind.i64.wrap ((n : Int) - 1) = (n : Int) - 1 := by rw [IntKind.wrap_i64]; omega
  obtain ⟨i, hi, hz0, hz1, hz2⟩ := info_parts infoInt
  have i1 : (k : Int) < (n : Int) := by omega
  go_enter Try.func104, Try.ntmps104
  go_wp2_with (first
    | (go_at_call 96; (with_reducible refine (implInRange_ok _ _ _ _).mono ?_); rintro e w' ⟨rfl, rfl⟩; (first | rw [r1] | rw [r2]))
    | (at_make; refine wpList_make_full _ rfl _ _ 32 rfl w.heap.size 3 i (.int .i64 0) 1 Try.underlying32 hi hz0 hz1 _ _ _ _ n rfl rfl rfl rfl ?b1 ?b2 (Nat.le_refl _) ?_))
  case b1 => rw [hz2]; omega
  case b2 => unfold maxLen; omega
  intro w1 hown hgrow
  have q0 : OI w1 w.heap.size w1.heap.size (some ⟨w.heap.size, 0, none⟩) n (List.replicate n 0) := by
    refine OI.of ?_
    unfold OwnI
    simpa [Value.cells, toList_madeCells_one] using hown
  have e0 := (Ext.refl w).grown hgrow (by simp)
  obtain ⟨s1, s2, s3, u, s4⟩ := q0.store k 1 (by simpa using hk)
  have e1 := Span.ext e0 s2 (Nat.le_refl _)
  have s1' : OI (w1.setCell ⟨w.heap.size, k, none⟩ (.int .i64 1)) w.heap.size w1.heap.size (some ⟨w.heap.size, 0, none⟩) n (unitV n k) := s1
  clear hown hgrow q0 s2 e0 s1
  go_wp2_with fail
  go_ret
  exact ⟨_, _, by rw [unitV_length]; rfl, s1'.1, e1⟩

theorem unitV_take_yes {n k : Nat} (hk : k < n) : (unitV n k).take (k + 1) = (unitV n k).take k ++ [1] := by
  rw [List.take_add_one, unitV_get hk, if_pos rfl]; rfl
theorem unitV_take_no {n k j : Nat} (hj : j < n) (hne : j ≠ k) : (unitV n k).take (j + 1) = (unitV n k).take j ++ [0] := by
  rw [List.take_add_one, unitV_get hj, if_neg hne]; rfl

set_option maxHeartbeats 1000000 in
theorem specUnitVector_ok (n k : Nat) (w : World) (hk : k < n) (hn : n ≤ 40) : Calls Try.prog 72 #[.int .i64 n, .int .i64 k] w (NewI w (unitV n k)) := by
  have r1 : inR n 0 40 = true := inR_true.2 (by omega)
  have r2 : inR k 0 ((n : Int) - 1) = true := inR_true.2 (by omega)
  have o0 := OwnI.new w w.heap.size [] (Nat.le_refl _) (by simp)
  have e0 := (Ext.refl w).alloc (.cells (I []).toArray 3)
  go_enter Try.func72, Try.ntmps72
  go_wp2_with (go_at_call 94; (with_reducible refine (specInRange_ok _ _ _ _).mono ?_); rintro e w' ⟨rfl, rfl⟩; (first | rw [r1] | rw [r2]))
  go_loopw [5, 6] (fun v i wr => ∃ (j : Nat) (a1 : Option Addr) (c1 : Nat) (us : List Int), j ≤ n ∧ i = .int .i64 j ∧ v = .slice a1 us.length c1 ∧ Hid (us = (unitV n k).take j) ∧ OwnI wr w.heap.size a1 c1 us ∧ Ext w wr) (fun _ i _ => n - (intOf i).toNat)
  case atStart => exact ⟨0, _, _, [], Nat.zero_le _, rfl, rfl, rfl, o0, e0⟩
  case round =>
    clear o0 e0
    obtain ⟨j, a1, c1, us, hj, rfl, rfl, HU, ho, he⟩ := hrel
    have hul : us.length ≤ 40 := by rw [HU.out, List.length_take, unitV_length]; omega
    by_cases hlt : j < n
    · obtain ⟨x, hx⟩ : ∃ x : Int, Hid (x = if j = k then 1 else 0) := ⟨_, rfl⟩
      obtain ⟨vs, hvs⟩ : ∃ vs, Hid (vs = us ++ [x]) := ⟨_, rfl⟩
      have HT : Hid (vs = (unitV n k).take (j + 1)) := by rw [List.take_add_one, unitV_get hlt, ← hx.out, ← HU.out]; exact hvs
      by_cases e : j = k
      · have e' : ((j : Int) == (k : Int)) = true := by simp [e]
        obtain rfl : x = 1 := by rw [hx.out, if_pos e]
        clear e
        go_wp2_with (at_builtin; refine wpList_appI _ rfl _ _ rfl w.heap.size _ _ us rfl (ho.ext ((Ext.refl wr).alloc _)) _ _ [1] rfl (Vals.new wr [.int .i64 1] _) vs hvs.out (by simp; omega) (by have := he.size_le; simp; omega) ?_)
        intro a4 c4 w4 o4 g4 _
        have e4 := (he.alloc (.cells (I [1]).toArray 3)).grown g4 (fun k hk => (ho.block k hk).1)
        clear g4 ho he
        go_wp2_with fail
        go_roundw
        case rel => exact ⟨j + 1, a4, c4, vs, by omega, by go_num, rfl, HT, o4, e4⟩
        case measure => simp [intOf]; omega
      · have e' : ((j : Int) == (k : Int)) = false := by simp; omega
        obtain rfl : x = 0 := by rw [hx.out, if_neg e]
        clear e
        go_wp2_with (at_builtin; refine wpList_appI _ rfl _ _ rfl w.heap.size _ _ us rfl (ho.ext ((Ext.refl wr).alloc _)) _ _ [0] rfl (Vals.new wr [.int .i64 0] _) vs hvs.out (by simp; omega) (by have := he.size_le; simp; omega) ?_)
        intro a4 c4 w4 o4 g4 _
        have e4 := (he.alloc (.cells (I [0]).toArray 3)).grown g4 (fun k hk => (ho.block k hk).1)
        clear g4 ho he
        go_wp2_with fail
        go_roundw
        case rel => exact ⟨j + 1, a4, c4, vs, by omega, by go_num, rfl, HT, o4, e4⟩
        case measure => simp [intOf]; omega
    · have E : Hid (us = unitV n k) := by have := HU.out; rwa [List.take_of_length_le (by rw [unitV_length]; omega)] at this
      go_wp2_with fail
      go_ret
      rw [← E.out]
      exact ⟨a1, c1, rfl, ho, he⟩

end Go.Proofs.Ytkegknophppdgaa
