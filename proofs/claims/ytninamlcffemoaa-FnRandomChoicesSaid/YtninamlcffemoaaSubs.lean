/- RandomSubset: contracts of the program and the reference; the law. -/
import Derived.Test.YtninamlcffemoaaShuL
namespace Go.Proofs.Ytninamlcffemoaa
open Go.RowKit Go.Sort
set_option linter.unusedVariables false
set_option maxRecDepth 20000

/-- The numbers below n, in order, as often as l holds them. -/
def pkTo (l : List Int) : Nat → List Int
  | 0 => []
  | n + 1 => pkTo l n ++ List.replicate (l.count (n : Int)) (n : Int)
theorem pkTo_mem {l : List Int} {n : Nat} {x : Int} (h : x ∈ pkTo l n) : 0 ≤ x ∧ x < n := by
  induction n with
  | zero => simp [pkTo] at h
  | succ n ih =>
    unfold pkTo at h
    rcases List.mem_append.1 h with h | h
    · have := ih h; omega
    · have := List.eq_of_mem_replicate h; omega
theorem pkTo_count (l : List Int) (n : Nat) (a : Int) : (pkTo l n).count a = if 0 ≤ a ∧ a < n then l.count a else 0 := by
  induction n with
  | zero =>
    rw [if_neg (by omega)]
    rfl
  | succ n ih =>
    unfold pkTo
    rw [List.count_append, ih, List.count_replicate]
    by_cases h : (n : Int) = a
    · subst h
      rw [if_neg (by omega), if_pos (by simp), if_pos (by omega), Nat.zero_add]
    · have hbe : ((n : Int) == a) = false := beq_eq_false_iff_ne.2 h
      rw [hbe]
      simp only [Bool.false_eq_true, if_false, Nat.add_zero]
      by_cases h2 : 0 ≤ a ∧ a < n
      · rw [if_pos h2, if_pos (by omega)]
      · rw [if_neg h2, if_neg (by omega)]
theorem pkTo_sorted (l : List Int) (n : Nat) : (pkTo l n).Pairwise (fun a b => decide (a ≤ b) = true) := by
  induction n with
  | zero => exact List.Pairwise.nil
  | succ n ih =>
    unfold pkTo
    rw [List.pairwise_append]
    refine ⟨ih, List.pairwise_replicate.2 (.inr (by simp)), fun a ha b hb => ?_⟩
    have := pkTo_mem ha
    have := List.eq_of_mem_replicate hb
    simp
    omega
theorem pkTo_sort {l : List Int} {n : Nat} (h : ∀ x ∈ l, 0 ≤ x ∧ x < n) : pkTo l n = l.mergeSort fun x y => decide (x ≤ y) := by
  refine List.Perm.eq_of_pairwise (le := fun a b => decide (a ≤ b) = true) (fun a b _ _ h1 h2 => ?_) (pkTo_sorted l n) (List.pairwise_mergeSort (fun a b c h1 h2 => ?_) (fun a b => ?_) l) ?_
  · simp at h1 h2; omega
  · simp at h1 h2 ⊢; omega
  · simp; omega
  · refine List.Perm.trans ?_ (List.mergeSort_perm _ _).symm
    rw [List.perm_iff_count]
    intro a
    rw [pkTo_count]
    split
    · rfl
    · rename_i hn
      symm
      rw [List.count_eq_zero]
      intro ha
      exact hn (h a ha)
theorem pkTo_len {l : List Int} {n : Nat} (h : ∀ x ∈ l, 0 ≤ x ∧ x < n) : (pkTo l n).length = l.length := by rw [pkTo_sort h, List.length_mergeSort]

theorem chTo_mem (s : Int) (n : Nat) (hn : n ≤ 40) : ∀ k, k ≤ n → (∀ x ∈ (chTo s n k).1, 0 ≤ x ∧ x < n) ∧ (∀ x ∈ (chTo s n k).2, 0 ≤ x ∧ x < n) := by
  intro k
  induction k with
  | zero =>
    intro _
    refine ⟨fun x hx => ?_, fun x hx => by simp [chTo] at hx⟩
    simp [chTo, upFrom] at hx
    omega
  | succ k ih =>
    intro hk
    obtain ⟨h1, h2⟩ := ih (by omega)
    have hl := chTo_len s n hn k (by omega)
    have hr := rnum_lt s k (chTo s n k).1.length (by omega) (by omega)
    have hr0 := (rnum_range s k (chTo s n k).1.length).1
    show (∀ x ∈ (chStep s k (chTo s n k)).1, _) ∧ (∀ x ∈ (chStep s k (chTo s n k)).2, _)
    unfold chStep
    refine ⟨fun x hx => ?_, fun x hx => ?_⟩
    · rcases List.mem_append.1 hx with hx | hx
      · exact h1 x (List.mem_of_mem_take hx)
      · exact h1 x (List.mem_of_mem_drop hx)
    · rcases List.mem_append.1 hx with hx | hx
      · exact h2 x hx
      · simp only [List.mem_singleton] at hx
        have ht : (rnum s k (chTo s n k).1.length).toNat < (chTo s n k).1.length := by omega
        rw [List.getD_eq_getElem?_getD, List.getElem?_eq_getElem ht] at hx
        rw [hx]
        exact h1 _ (List.getElem_mem ht)

def sbs (s n m : Int) : List Int := if inR n 0 40 && inR m 0 n then pkTo (chTo s n.toNat m.toNat).2 n.toNat else []
theorem sbs_len (s n m : Int) : (sbs s n m).length ≤ 1048576 := by
  unfold sbs
  split
  · rename_i h
    simp only [Bool.and_eq_true] at h
    have h1 := inR_true.1 h.1
    have h2 := inR_true.1 h.2
    rw [pkTo_len (chTo_mem s n.toNat (by omega) m.toNat (by omega)).2, (chTo_len s n.toNat (by omega) m.toNat (by omega)).2]
    omega
  · simp

set_option maxHeartbeats 1000000 in
theorem implRandomSubset_ok (s n m : Int) (w : World) : Calls Try.prog 62 #[.int .i64 s, .int .i64 n, .int .i64 m] w (NewI w (sbs s n m)) := by
  cases h1 : inR n 0 40
  · have HN : Hid (sbs s n m = []) := by unfold sbs; rw [h1]; exact Lib.hid rfl
    go_enter Try.func62, Try.ntmps62
    go_wp2_with (go_at_call 119; refine (implInRange_ok _ _ _ _).mono ?_; rintro e w' ⟨rfl, rfl⟩; rw [h1])
    go_ret
    rw [HN.out]
    exact ⟨none, 0, rfl, OwnI.nil _ _, Ext.refl _⟩
  cases h2 : inR m 0 n
  · have HN : Hid (sbs s n m = []) := by unfold sbs; rw [h1, h2]; exact Lib.hid rfl
    go_enter Try.func62, Try.ntmps62
    go_wp2_with (go_at_call 119; refine (implInRange_ok _ _ _ _).mono ?_; rintro e w' ⟨rfl, rfl⟩; (first | rw [h1] | rw [h2]))
    go_ret
    rw [HN.out]
    exact ⟨none, 0, rfl, OwnI.nil _ _, Ext.refl _⟩
  obtain ⟨n0, n1⟩ := inR_true.1 h1
  obtain ⟨m0, m1⟩ := inR_true.1 h2
  obtain ⟨n, rfl⟩ := Int.eq_ofNat_of_zero_le n0
  obtain ⟨m, rfl⟩ := Int.eq_ofNat_of_zero_le m0
  obtain ⟨l, hl⟩ : ∃ l, Hid (l = (chTo s n m).2) := ⟨_, rfl⟩
  have HN : Hid (sbs s (n : Int) (m : Int) = l.mergeSort fun x y => decide (x ≤ y)) := by
    unfold sbs
    rw [h1, h2]
    simp only [Bool.and_self, if_true, Int.toNat_natCast]
    rw [hl.out]
    exact pkTo_sort (chTo_mem s n (by omega) m (by omega)).2
  have hll : l.length ≤ 40 := by rw [hl.out, (chTo_len s n (by omega) m (by omega)).2]; omega
  have C0 := drawn_ok s n m w (by omega) (by omega)
  rw [← hl.out] at C0
  have C1 := Lib.hid C0
  clear C0
  go_enter Try.func62, Try.ntmps62
  go_wp2_with (first
    | (go_at_call 119; refine (implInRange_ok _ _ _ _).mono ?_; rintro e w' ⟨rfl, rfl⟩; (first | rw [h1] | rw [h2]))
    | (go_at_call 122; (with_reducible refine C1.out.mono ?_); rintro e w2 ⟨a2, c2, rfl, o2, e2⟩))
  by_cases h0 : l.length = 0
  · obtain rfl : l = [] := List.eq_nil_of_length_eq_zero h0
    have C2 := Lib.hid (Try.slices_Sort_int_none a2 c2 w2)
    refine C2.out.mono ?_
    rintro e w3 ⟨rfl, rfl⟩
    go_wp2_with fail
    go_ret
    rw [HN.out]
    exact ⟨a2, c2, by simp, by simpa using o2, e2⟩
  · obtain ⟨g, rfl, g1, g2, g3⟩ := (OI.of o2).form (by omega)
    have HH := o2.holds
    have C2 := Lib.hid (Try.slices_Sort_int g 0 c2 l w2 HH.1 g3 (by omega))
    have HF : Hid (∀ (q : Nat) (os : Array Obj), OwnI (grow (putRow (Value.int .i64) (Sort.ahead w2 q) g 0 (l.mergeSort fun x y => decide (x ≤ y)).toArray) os) w.heap.size (some ⟨g, 0, none⟩) c2 (l.mergeSort fun x y => decide (x ≤ y)) ∧ w2.grownBy (grow (putRow (Value.int .i64) (Sort.ahead w2 q) g 0 (l.mergeSort fun x y => decide (x ≤ y)).toArray) os) (some g)) := fun q os => by
      rcases o2.2 with ⟨hv, _⟩ | ⟨g', cap, cur, hv, hB, hg, hn, hm, hs, ht⟩
      · cases hv
      injection hv with hv _ hc
      injection hv with hv
      injection hv with hv
      subst hv hc
      refine ⟨?_, grownBy_sortedI _⟩
      have := ownsRow_sortedI (n := q) (os := os) (ts := l.mergeSort fun x y => decide (x ≤ y)) (ss := l) (List.length_mergeSort _) hB hg hn hm hs
      unfold OwnI
      rw [List.length_mergeSort]
      exact this
    obtain ⟨ts, hts⟩ : ∃ ts, Hid (ts = l.mergeSort fun x y => decide (x ≤ y)) := ⟨_, rfl⟩
    have hlt : Hid (l.length = ts.length) := by rw [hts.out, List.length_mergeSort]; exact Lib.hid rfl
    rw [← hts.out] at HN HF C2
    (with_reducible refine C2.out.mono ?_)
    rintro e w3 ⟨rfl, q, os, hw3⟩
    obtain ⟨o3, gr⟩ := HF.out q os
    rw [← hw3] at o3 gr
    have e3 := e2.grown gr (fun k hk => by injection hk with hk; omega)
    clear hw3 HF C2 HH gr
    rw [hlt.out]
    go_wp2_with fail
    go_ret
    rw [HN.out]
    exact ⟨_, _, rfl, o3, e3⟩

theorem count_snoc {l : List Int} {k : Nat} {x a : Int} (h : l[k]? = some x) : (l.take (k + 1)).count a = (l.take k).count a + if x = a then 1 else 0 := by
  rw [List.take_add_one, h, List.count_append]
  congr 1
  by_cases e : x = a
  · subst e; simp
  · rw [if_neg e]
    simp [e]

set_option maxHeartbeats 4000000 in
set_option maxRecDepth 100000 in
theorem specRandomSubset_ok (s n m : Int) (w : World) : Calls Try.prog 61 #[.int .i64 s, .int .i64 n, .int .i64 m] w (NewI w (sbs s n m)) := by
  have o0 := OwnI.new w w.heap.size [] (Nat.le_refl _) (by simp)
  have e0 := (Ext.refl w).alloc (.cells (I []).toArray 3)
  have O0 := Lib.hid o0
  have E0 := Lib.hid e0
  clear o0 e0
  cases h1 : inR n 0 40
  · have HN : Hid (sbs s n m = []) := by unfold sbs; rw [h1]; exact Lib.hid rfl
    go_enter Try.func61, Try.ntmps61
    go_wp2_with (go_at_call 120; refine (specInRange_ok _ _ _ _).mono ?_; rintro e w' ⟨rfl, rfl⟩; rw [h1])
    go_ret
    rw [HN.out]
    exact ⟨_, _, rfl, O0.out, E0.out⟩
  cases h2 : inR m 0 n
  · have HN : Hid (sbs s n m = []) := by unfold sbs; rw [h1, h2]; exact Lib.hid rfl
    go_enter Try.func61, Try.ntmps61
    go_wp2_with (go_at_call 120; refine (specInRange_ok _ _ _ _).mono ?_; rintro e w' ⟨rfl, rfl⟩; (first | rw [h1] | rw [h2]))
    go_ret
    rw [HN.out]
    exact ⟨_, _, rfl, O0.out, E0.out⟩
  obtain ⟨n0, n1⟩ := inR_true.1 h1
  obtain ⟨m0, m1⟩ := inR_true.1 h2
  obtain ⟨n, rfl⟩ := Int.eq_ofNat_of_zero_le n0
  obtain ⟨m, rfl⟩ := Int.eq_ofNat_of_zero_le m0
  obtain ⟨l, hl⟩ : ∃ l, Hid (l = (chTo s n m).2) := ⟨_, rfl⟩
  have HN : Hid (sbs s (n : Int) (m : Int) = pkTo l n) := by
    unfold sbs
    rw [h1, h2]
    simp only [Bool.and_self, if_true, Int.toNat_natCast]
    rw [hl.out]
    exact Lib.hid rfl
  have hll : l.length ≤ 40 := by rw [hl.out, (chTo_len s n (by omega) m (by omega)).2]; omega
  have C0 := choose_ok s n m (w.alloc (.cells #[] 3)) (by omega) (by omega)
  rw [← hl.out] at C0
  have C1 := Lib.hid C0
  clear C0
  go_enter Try.func61, Try.ntmps61
  go_wp2_with (first
    | (go_at_call 120; refine (specInRange_ok _ _ _ _).mono ?_; rintro e w' ⟨rfl, rfl⟩; (first | rw [h1] | rw [h2]))
    | (go_at_call 121; (with_reducible refine C1.out.mono ?_); rintro e w2 ⟨a2, c2, rfl, o2', e2⟩))
  have e02 := E0.out.trans e2
  have o1 := O0.out.ext e2
  have o2 : OwnI w2 w.heap.size a2 c2 l := o2'.more (by simp)
  have ap : Apart a2 (some ⟨w.heap.size, 0, none⟩) := fun q h1 h2 => by
    have := (o2'.block q h1).1
    simp [blockOf] at h2 this
    omega
  have O1 := Lib.hid o1
  have O2 := Lib.hid o2
  have AP := Lib.hid ap
  have E2 := Lib.hid e02
  clear o1 o2 o2' ap e02 O0 E0
  go_loopw [7, 9] (fun v i wr => ∃ (k : Nat) (a1 : Option Addr) (c1 : Nat) (us : List Int), k ≤ n ∧ i = .int .i64 k ∧ v = .slice a1 us.length c1 ∧ Hid (us = pkTo l k) ∧ us.length ≤ 40 * k ∧ OwnI wr w.heap.size a1 c1 us ∧ OwnI wr w.heap.size a2 c2 l ∧ Apart a2 a1 ∧ Ext w wr) (fun _ i _ => n - (intOf i).toNat)
  case atStart => exact ⟨0, _, _, [], Nat.zero_le _, rfl, rfl, rfl, by simp, O1.out, O2.out, AP.out, E2.out⟩
  case round =>
    clear O1 O2 AP E2 e2
    obtain ⟨k, a1, c1, us, hk, rfl, rfl, HU, hul, ho, ho2, hap, he⟩ := hrel
    by_cases hlt : k < n
    · go_wp2_with fail
      go_loopw [7, 10] (fun v i wr => ∃ (j : Nat) (a1 : Option Addr) (c1 : Nat) (us : List Int), j ≤ l.length ∧ i = .int .i64 j ∧ v = .slice a1 us.length c1 ∧ Hid (us = pkTo l k ++ List.replicate ((l.take j).count (k : Int)) (k : Int)) ∧ us.length ≤ 40 * k + j ∧ OwnI wr w.heap.size a1 c1 us ∧ OwnI wr w.heap.size a2 c2 l ∧ Apart a2 a1 ∧ Ext w wr) (fun _ i _ => l.length - (intOf i).toNat)
      case atStart => exact ⟨0, a1, c1, us, Nat.zero_le _, rfl, rfl, by simpa [Hid] using HU.out, by omega, ho, ho2, hap, he⟩
      case round =>
        clear ho ho2 hap he HU hul
        obtain ⟨j, a1, c1, us, hj, rfl, rfl, HU, hul, ho, ho2, hap, he⟩ := hrel
        by_cases hjl : j < l.length
        · obtain ⟨b, o, x, rfl, hb, hx, hc⟩ := ho2.vals.atI hjl
          by_cases hxk : x = (k : Int)
          · subst hxk
            have hq : ((k : Int) == (k : Int)) = true := by simp
            obtain ⟨vs, hvs⟩ : ∃ vs, Hid (vs = us ++ [(k : Int)]) := ⟨_, rfl⟩
            have HV : Hid (vs = pkTo l k ++ List.replicate ((l.take (j + 1)).count (k : Int)) (k : Int)) := by
              rw [count_snoc hx.out, if_pos rfl, List.replicate_succ', ← List.append_assoc, ← HU.out]
              exact hvs
            have hvl : vs.length ≤ 40 * k + (j + 1) := by rw [hvs.out]; simp; omega
            have HA := Lib.hid hap
            clear hap
            go_wp2_with (at_builtin; refine wpList_appI _ rfl _ _ rfl w.heap.size _ _ us rfl (ho.ext ((Ext.refl wr).alloc _)) _ _ [(k : Int)] rfl (Vals.new wr [.int .i64 (k : Int)] _) vs hvs.out (by simp; omega) (by have := he.size_le; simp; omega) ?_)
            intro a3 c3 w3 o3 g3 b3
            have e3 := (he.alloc (.cells (I [(k : Int)]).toArray 3)).grown g3 (fun k hk => (ho.block k hk).1)
            have o23 := (ho2.ext ((Ext.refl wr).alloc (.cells (I [(k : Int)]).toArray 3))).kept g3 (.inr (fun e => HA.out b rfl e.symm))
            have ap3 : Apart (some ⟨b, o, none⟩) a3 := fun q h1 h2 => by
              rcases b3 with b3 | b3
              · rw [b3] at h2
                exact HA.out q h1 h2
              · rw [b3] at h2
                have := (ho2.block q h1).2
                simp at h2
                omega
            clear g3 ho ho2 he b3 hc
            go_wp2_with fail
            go_roundw
            case rel => exact ⟨j + 1, a3, c3, vs, by omega, by go_num, rfl, HV, hvl, o3, o23, ap3, e3⟩
            case measure => simp [intOf]; omega
          · have hq : (x == (k : Int)) = false := beq_eq_false_iff_ne.2 hxk
            have HV : Hid (us = pkTo l k ++ List.replicate ((l.take (j + 1)).count (k : Int)) (k : Int)) := by
              rw [count_snoc hx.out, if_neg hxk, Nat.add_zero]
              exact HU
            clear hxk
            go_wp2_with fail
            go_roundw
            case rel => exact ⟨j + 1, a1, c1, us, by omega, by go_num, rfl, HV, by omega, ho, ho2, hap, he⟩
            case measure => simp [intOf]; omega
        · have HV : Hid (us = pkTo l (k + 1)) := by
            have := HU.out
            rw [List.take_of_length_le (by omega)] at this
            exact this
          go_wp2_with fail
          go_roundw
          case rel => exact ⟨k + 1, a1, c1, us, by omega, by go_num, rfl, HV, by omega, ho, ho2, hap, he⟩
          case measure => simp [intOf]; omega
    · obtain rfl : k = n := by omega
      have HV : Hid (sbs s (k : Int) (m : Int) = us) := by rw [HN.out, HU.out]; exact Lib.hid rfl
      go_wp2_with fail
      go_ret
      rw [HV.out]
      exact ⟨a1, c1, rfl, ho, he⟩

set_option maxHeartbeats 4000000 in
set_option maxRecDepth 100000 in
theorem lawRandomSubset (n0 : Int) (n1 : Int) (n2 : Int) (w : World) :
    Calls Try.prog 11 #[.int .i64 n0, .int .i64 n1, .int .i64 n2] w (Gives w (.bool true)) := by
  have hres : (sbs n0 n1 n2).length ≤ 1048576 := sbs_len n0 n1 n2
  go_enter Try.func11, Try.ntmps11
  go_wp2_with fail
  refine (specRandomSubset_ok _ _ _ _).mono ?_
  rintro e w1 ⟨u0a, u0c, rfl, u0o, e1⟩
  have E := (Ext.refl w).trans e1
  have z0 := e1.size_le
  replace u0o := OI.of u0o
  go_wp2_with fail
  refine (implRandomSubset_ok _ _ _ _).mono ?_
  rintro e w2 ⟨u1a, u1c, rfl, u1o, e2⟩
  have z2 := e2.size_le
  replace u0o := u0o.ext e2
  replace E := E.trans e2
  clear e2
  replace u1o := OI.of u1o
  go_wp2_with fail
  refine (eqIntS_ok _ _ _ _ _ _ _ (u1o.vals) (u0o.vals) (by omega)).mono ?_
  rintro e w3 ⟨rfl, e3⟩
  replace e3 := Dr.ext e3
  have z3 := e3.size_le
  replace u0o := u0o.ext e3
  replace u1o := u1o.ext e3
  replace E := E.trans e3
  clear e3
  go_wp2_with fail
  refine (markIntS_ok _ _ _ _ _ _ _ u1o (by omega) (by omega) (by omega)).mono ?_
  rintro e w4 ⟨rfl, u1o', s4⟩
  have z4 := s4.size
  replace u0o := u0o.span s4 (by omega)
  replace E := Span.ext E s4 (by omega)
  clear s4 u1o
  have u1o := u1o'
  clear u1o'
  go_wp2_with fail
  refine (heldIntS_ok _ _ _ _ _ (u1o.vals) (by omega) (by omega) (by omega)).mono ?_
  rintro e w5 ⟨rfl, rfl⟩
  go_wp2_with fail
  refine (implRandomSubset_ok _ _ _ _).mono ?_
  rintro e w5 ⟨u2a, u2c, rfl, u2o, e5⟩
  have z5 := e5.size_le
  replace u0o := u0o.ext e5
  replace u1o := u1o.ext e5
  replace E := E.trans e5
  clear e5
  replace u2o := OI.of u2o
  go_wp2_with fail
  refine (eqIntS_ok _ _ _ _ _ _ _ (u2o.vals) (u0o.vals) (by omega)).mono ?_
  rintro e w6 ⟨rfl, e6⟩
  replace e6 := Dr.ext e6
  have z6 := e6.size_le
  replace u0o := u0o.ext e6
  replace u1o := u1o.ext e6
  replace u2o := u2o.ext e6
  replace E := E.trans e6
  clear e6
  go_wp2_with fail
  refine (heldIntS_ok _ _ _ _ _ (u1o.vals) (by omega) (by omega) (by omega)).mono ?_
  rintro e w7 ⟨rfl, rfl⟩
  go_wp2_with fail
  go_ret
  exact ⟨rfl, E⟩

end Go.Proofs.Ytninamlcffemoaa
