/- Plain: numbers drawn out of a row are drawn once each; a sorted subset is strictly sorted; sparse vectors. -/
import Derived.Test.YtninamlcffemoaaSubs
namespace Go.Proofs.Ytninamlcffemoaa
open Go.RowKit
set_option linter.unusedVariables false
set_option maxRecDepth 20000

theorem split_at {l : List Int} {t : Nat} (h : t < l.length) : l = l.take t ++ l.getD t 0 :: l.drop (t + 1) := by
  rw [List.getD_eq_getElem?_getD, List.getElem?_eq_getElem h, Option.getD_some, List.getElem_cons_drop, List.take_append_drop]
theorem chTo_perm (s : Int) (n : Nat) (hn : n ≤ 40) : ∀ k, k ≤ n → ((chTo s n k).1 ++ (chTo s n k).2).Perm (upFrom 0 n) := by
  intro k
  induction k with
  | zero => intro _; simp [chTo]
  | succ k ih =>
    intro hk
    have h1 := ih (by omega)
    have hl := chTo_len s n hn k (by omega)
    have hr := rnum_lt s k (chTo s n k).1.length (by omega) (by omega)
    have hr0 := (rnum_range s k (chTo s n k).1.length).1
    show ((chStep s k (chTo s n k)).1 ++ (chStep s k (chTo s n k)).2).Perm _
    refine List.Perm.trans ?_ h1
    unfold chStep
    simp only
    generalize hg : (rnum s k (chTo s n k).1.length).toNat = t at *
    have ht : t < (chTo s n k).1.length := by omega
    generalize (chTo s n k).1 = l at *
    generalize (chTo s n k).2 = v at *
    rw [List.perm_iff_count]
    intro a
    have e := congrArg (List.count a) (split_at ht)
    rw [List.count_append, List.count_cons] at e
    rw [List.count_append, List.count_append, List.count_append, List.count_append, e, List.count_cons, List.count_nil]
    omega
theorem upFrom_nodup (n : Nat) : (upFrom 0 n).Nodup := by
  unfold upFrom List.Nodup
  rw [List.pairwise_map]
  exact List.nodup_range.imp fun h e => h (by omega)
theorem chTo_nodup (s : Int) (n : Nat) (hn : n ≤ 40) (k : Nat) (hk : k ≤ n) : (chTo s n k).2.Nodup := by
  have := (chTo_perm s n hn k hk).nodup_iff.2 (upFrom_nodup n)
  exact (List.nodup_append.1 this).2.1
theorem shuf_mem (s : Int) (n : Nat) (hn : n ≤ 40) {i : Int} (h0 : 0 ≤ i) (h1 : i < n) : i ∈ (chTo s n n).2 := by
  have hp := chTo_perm s n hn n (Nat.le_refl _)
  have hl := (chTo_len s n hn n (Nat.le_refl _)).1
  rw [List.eq_nil_of_length_eq_zero (show (chTo s n n).1.length = 0 by omega), List.nil_append] at hp
  rw [hp.mem_iff]
  unfold upFrom
  exact List.mem_map.2 ⟨i.toNat, List.mem_range.2 (by omega), by omega⟩
theorem pkTo_strict {l : List Int} (h : l.Nodup) : ∀ n, (pkTo l n).Pairwise (fun a b => a < b) := by
  intro n
  induction n with
  | zero => exact List.Pairwise.nil
  | succ n ih =>
    unfold pkTo
    rw [List.pairwise_append]
    refine ⟨ih, ?_, fun a ha b hb => ?_⟩
    · have hc := List.nodup_iff_count.1 h (n : Int)
      rcases Nat.lt_or_ge (l.count (n : Int)) 1 with h0 | h0
      · rw [show l.count (n : Int) = 0 by omega]; exact List.Pairwise.nil
      · rw [show l.count (n : Int) = 1 by omega]; exact List.pairwise_singleton _ _
    · have := pkTo_mem ha
      have := List.eq_of_mem_replicate hb
      omega
/-- What is said of a subset: how many, within bounds, strictly sorted. -/
theorem sbs_ok {s : Int} {n m : Nat} (hn : n ≤ 40) (hm : m ≤ n) : (sbs s n m).length = m ∧ (∀ x ∈ sbs s n m, 0 ≤ x ∧ x < n) ∧ (sbs s n m).Pairwise (fun a b => a < b) := by
  have h1 : inR (n : Int) 0 40 = true := inR_true.2 (by omega)
  have h2 : inR (m : Int) 0 n = true := inR_true.2 (by omega)
  unfold sbs
  rw [h1, h2]
  simp only [Bool.and_self, if_true, Int.toNat_natCast]
  have hc := (chTo_mem s n hn m hm).2
  exact ⟨by rw [pkTo_len hc, (chTo_len s n hn m hm).2], fun x hx => pkTo_mem hx, pkTo_strict (chTo_nodup s n hn m hm) n⟩

/-- A sparse vector behind k of its places. -/
def svTo (s : Int) (n : Nat) (l : List Int) : Nat → List Int
  | 0 => List.replicate n 0
  | k + 1 => (svTo s n l k).set (l.getD k 0).toNat (1 + rnum s (100 + l.getD k 0) 1018)
theorem svTo_length (s : Int) (n : Nat) (l : List Int) : ∀ k, (svTo s n l k).length = n := by
  intro k
  induction k with
  | zero => simp [svTo]
  | succ k ih => unfold svTo; rw [List.length_set]; exact ih
theorem svTo_at {s : Int} {n : Nat} {l : List Int} {k : Nat} {x : Int} (h : l[k]? = some x) : svTo s n l (k + 1) = (svTo s n l k).set x.toNat (1 + rnum s (100 + x) 1018) := by
  show (svTo s n l k).set (l.getD k 0).toNat _ = _
  rw [List.getD_eq_getElem?_getD, h]
  rfl
def spv (s n m : Int) : List Int := if inR n 1 40 && inR m 1 n then svTo s n.toNat (sbs s n m) (sbs s n m).length else []
theorem spv_len (s n m : Int) : (spv s n m).length ≤ 1048576 := by
  unfold spv
  split
  · rename_i h
    simp only [Bool.and_eq_true] at h
    have := inR_true.1 h.1
    rw [svTo_length]
    omega
  · simp
/-- The places set so far hold what is not 0, the others 0. -/
theorem svTo_get {s : Int} {n : Nat} {l : List Int} (hb : ∀ x ∈ l, 0 ≤ x ∧ x < n) : ∀ k, k ≤ l.length → ∀ j, j < n → ((j : Int) ∈ l.take k → ∃ y, (svTo s n l k)[j]? = some y ∧ y ≠ 0) ∧ (¬ (j : Int) ∈ l.take k → (svTo s n l k)[j]? = some 0) := by
  intro k
  induction k with
  | zero =>
    intro _ j hj
    refine ⟨fun h => by simp at h, fun _ => ?_⟩
    simp [svTo, hj]
  | succ k ih =>
    intro hk j hj
    obtain ⟨i1, i2⟩ := ih (by omega) j hj
    have hx : l[k]? = some l[k] := List.getElem?_eq_getElem (by omega)
    obtain ⟨b0, b1⟩ := hb l[k] (List.getElem_mem _)
    rw [svTo_at hx, List.getElem?_set, List.take_add_one, hx]
    by_cases e : l[k].toNat = j
    · rw [if_pos e, if_pos (by rw [svTo_length]; omega)]
      have e' : l[k] = (j : Int) := by omega
      refine ⟨fun _ => ⟨_, rfl, ?_⟩, fun h => absurd (by rw [e']; simp) h⟩
      have := (rnum_range s (100 + l[k]) 1018).1
      omega
    · rw [if_neg e]
      have e' : ¬ (j : Int) = l[k] := by omega
      simp only [List.mem_append, Option.toList_some, List.mem_singleton, e', or_false]
      exact ⟨i1, i2⟩
theorem cnz_cons (x : Int) (xs : List Int) : cnz (x :: xs) = (if x = 0 then 0 else 1) + cnz xs := by
  unfold cnz
  by_cases h : x = 0
  · subst h; simp
  · simp [h]; omega
theorem cnz_set {xs : List Int} {i : Nat} {y : Int} (h : xs[i]? = some 0) (hy : y ≠ 0) : cnz (xs.set i y) = cnz xs + 1 := by
  induction xs generalizing i with
  | nil => simp at h
  | cons x r ih =>
    cases i with
    | zero =>
      simp at h
      subst h
      rw [List.set_cons_zero, cnz_cons, cnz_cons, if_neg hy, if_pos rfl]
      omega
    | succ i =>
      simp at h
      rw [List.set_cons_succ, cnz_cons, cnz_cons, ih h]
      omega
theorem cnz_zeros' (n : Nat) : cnz (List.replicate n 0) = 0 := by
  unfold cnz
  rw [List.filter_eq_nil_iff.2 (fun x hx => by rw [(List.mem_replicate.1 hx).2]; simp)]
  rfl
theorem svTo_cnz {s : Int} {n : Nat} {l : List Int} (hb : ∀ x ∈ l, 0 ≤ x ∧ x < n) (hn : l.Nodup) : ∀ k, k ≤ l.length → cnz (svTo s n l k) = k := by
  intro k
  induction k with
  | zero => intro _; exact cnz_zeros' n
  | succ k ih =>
    intro hk
    have hx : l[k]? = some l[k] := List.getElem?_eq_getElem (by omega)
    obtain ⟨b0, b1⟩ := hb l[k] (List.getElem_mem _)
    rw [svTo_at hx, cnz_set ?_ ?_, ih (by omega)]
    · refine ((svTo_get hb k (by omega) l[k].toNat (by omega)).2 ?_)
      intro hm
      rw [show ((l[k].toNat : Nat) : Int) = l[k] by omega] at hm
      obtain ⟨j, hj, he⟩ := List.mem_iff_getElem.1 hm
      rw [List.length_take] at hj
      rw [List.getElem_take] at he
      have := (List.getElem_inj hn).1 he
      omega
    · have := (rnum_range s (100 + l[k]) 1018).1
      omega
theorem spv_ok {s : Int} {n m : Nat} (hn : n ≤ 40) (hm : m ≤ n) (h0 : 1 ≤ m) : (spv s n m).length = n ∧ cnz (spv s n m) = m := by
  have h1 : inR (n : Int) 1 40 = true := inR_true.2 (by omega)
  have h2 : inR (m : Int) 1 n = true := inR_true.2 (by omega)
  unfold spv
  rw [h1, h2]
  simp only [Bool.and_self, if_true, Int.toNat_natCast]
  obtain ⟨q1, q2, q3⟩ := sbs_ok (s := s) hn hm
  refine ⟨svTo_length _ _ _ _, ?_⟩
  rw [svTo_cnz q2 (q3.imp fun h e => by omega) _ (Nat.le_refl _)]
  exact q1

end Go.Proofs.Ytninamlcffemoaa
