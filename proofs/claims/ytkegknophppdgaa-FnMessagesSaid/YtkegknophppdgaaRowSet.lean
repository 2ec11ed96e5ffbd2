/- Rows picked, put and set among owned rows; cells written in a run. -/
import Derived.Test.YtkegknophppdgaaRowApp
import Derived.Laws.IdiomCopy
namespace Go.Proofs.Ytkegknophppdgaa
open Go.RowKit
set_option linter.unusedVariables false
set_option maxRecDepth 20000

/-- Values written one by one from o on. -/
def setL : List Value → Nat → List Value → List Value
  | xs, _, [] => xs
  | xs, o, v :: r => setL (xs.set o v) (o + 1) r
theorem setL_length : ∀ (vs : List Value) (o : Nat) (xs : List Value), (setL xs o vs).length = xs.length
  | [], _, _ => rfl
  | v :: r, o, xs => by rw [setL, setL_length r]; simp
theorem setL_get : ∀ (vs : List Value) (o : Nat) (xs : List Value) (i : Nat), o + vs.length ≤ xs.length → (setL xs o vs)[i]? = if o ≤ i ∧ i < o + vs.length then vs[i - o]? else xs[i]?
  | [], o, xs, i, _ => by rw [setL, if_neg (by simp)]
  | v :: r, o, xs, i, h => by
    simp at h
    rw [setL, setL_get r (o + 1) (xs.set o v) i (by simp; omega)]
    by_cases h1 : i = o
    · subst h1
      rw [if_neg (by omega), if_pos (by simp), List.getElem?_set_self (by omega)]
      simp
    · rw [List.getElem?_set_ne (by omega)]
      by_cases h2 : o + 1 ≤ i ∧ i < o + 1 + r.length
      · rw [if_pos h2, if_pos (by simp; omega), show i - o = (i - (o + 1)) + 1 by omega]
        simp
      · rw [if_neg h2, if_neg (by simp; omega)]
theorem ownsRow_setCells {B : Nat} {e : TypeId} {g n c : Nat} : ∀ (vs : List Value) (o : Nat) (w : World) (xs : List Value), w.ownsRow B e 1 (.slice (some ⟨g, 0, none⟩) n c) n xs → (w.setCells g o vs).ownsRow B e 1 (.slice (some ⟨g, 0, none⟩) n c) n (setL xs o vs)
  | [], _, _, _, h => h
  | v :: r, o, w, xs, h => ownsRow_setCells r (o + 1) _ _ (h.stored o v).1
theorem grownBy_setCells {g : Nat} : ∀ (vs : List Value) (o : Nat) (w : World), w.grownBy (w.setCells g o vs) (some g)
  | [], _, w => World.grownBy.refl w _
  | v :: r, o, w => by
    have h1 : w.grownBy (w.setCell ⟨g, o, none⟩ v) (some g) := ⟨rfl, rfl, rfl, by simp, fun k _ hk => heap_setCell_other w ⟨g, o, none⟩ k v (fun e => hk (by simp [e]))⟩
    have h2 := grownBy_setCells (g := g) r (o + 1) (w.setCell ⟨g, o, none⟩ v)
    exact ⟨h2.os.trans h1.os, h2.tape.trans h1.tape, h2.output.trans h1.output, Nat.le_trans h1.size h2.size, fun k hk hne => (h2.block k (Nat.lt_of_lt_of_le hk h1.size) hne).trans (h1.block k hk hne)⟩
theorem ownsRow_up {w : World} {B : Nat} {e : TypeId} {g n c : Nat} {xs : List Value} (h : w.ownsRow B e 1 (.slice (some ⟨g, 0, none⟩) n c) n xs) (hn : n + 1 ≤ c) : ∃ u, w.ownsRow B e 1 (.slice (some ⟨g, 0, none⟩) (n + 1) c) (n + 1) (xs ++ [u]) := by
  rcases h.2 with ⟨hv, _⟩ | ⟨g', cap, cur, hv, hB, hg, h1, h2, h3, h4⟩
  · cases hv
  · injection hv with hv1 hv2 hv3
    injection hv1 with hv1
    injection hv1 with hv1
    subst hv1 hv3
    have hlt : n < cur.toList.length := by simp; omega
    refine ⟨cur.toList[n], by simp [h.1], .inr ⟨g, c, cur, rfl, hB, hg, hn, h2, h3, ?_⟩⟩
    rw [Nat.mul_one] at h4 ⊢
    rw [List.take_add_one, h4, List.getElem?_eq_getElem hlt]
    rfl
theorem ownsRow_down {w : World} {B : Nat} {e : TypeId} {a : Option Addr} {n c : Nat} {xs : List Value} (h : w.ownsRow B e 1 (.slice a n c) n xs) (k : Nat) (hk : k ≤ n) : w.ownsRow B e 1 (.slice a k c) k (xs.take k) := by
  have hl := h.1
  refine ⟨by simp; omega, ?_⟩
  rcases h.2 with ⟨hv, hn⟩ | ⟨g', cap, cur, hv, hB, hg, h1, h2, h3, h4⟩
  · injection hv with hv1 hv2 hv3
    subst hv1 hv3
    exact .inl ⟨by rw [show k = 0 by omega], by omega⟩
  · injection hv with hv1 hv2 hv3
    subst hv1 hv3
    refine .inr ⟨g', c, cur, rfl, hB, hg, by omega, h2, h3, ?_⟩
    rw [← h4, List.take_take]
    congr 1
    omega

theorem OM.form {w : World} {B C : Nat} {a : Option Addr} {c : Nat} {xss : List (List Int)} (h : OM w B C a c xss) (hx : 0 < xss.length) : ∃ g, a = some ⟨g, 0, none⟩ ∧ B ≤ g ∧ g < C ∧ g < w.heap.size := by
  obtain ⟨rs, q1, q2, q3⟩ := h
  rcases q1.2 with ⟨hv, hn⟩ | ⟨g, cap, cur, hv, hB, hg, _⟩
  · omega
  · injection hv with h1
    subst h1
    exact ⟨g, rfl, hB, q2 g rfl, (Array.getElem?_eq_some_iff.1 hg).1⟩
theorem OM.cap {w : World} {B C : Nat} {a : Option Addr} {c : Nat} {xss : List (List Int)} (h : OM w B C a c xss) : xss.length ≤ c ∧ c ≤ maxLen := by
  obtain ⟨rs, q1, q2, q3⟩ := h
  rcases q1.2 with ⟨hv, hn⟩ | ⟨g, cap, cur, hv, hB, hg, h1, h2, _⟩
  · injection hv with h1 h2 h3
    subst h3
    exact ⟨by omega, by unfold maxLen; omega⟩
  · injection hv with _ _ h3
    subst h3
    exact ⟨h1, h2⟩

/-- Some of the rows, each once. -/
theorem RowsO.pick {w : World} {B C : Nat} {rs rs' : List (Option Addr × Nat)} {xss xss' : List (List Int)} (h : RowsO w B C rs xss) (σ : Nat → Nat) (hl : rs'.length = xss'.length)
    (h1 : ∀ i, i < rs'.length → rs'[i]? = rs[σ i]? ∧ xss'[i]? = xss[σ i]?) (h2 : ∀ i j, i < j → j < rs'.length → σ i ≠ σ j) : RowsO w B C rs' xss' := by
  refine ⟨hl, fun i r xs hr hx => ?_, fun i j r r' hij hi hj => ?_⟩
  · have hi := (List.getElem?_eq_some_iff.1 hr).1
    obtain ⟨p1, p2⟩ := h1 i hi
    exact h.row (σ i) r xs (p1 ▸ hr) (p2 ▸ hx)
  · have hjl := (List.getElem?_eq_some_iff.1 hj).1
    obtain ⟨p1, _⟩ := h1 i (by omega)
    obtain ⟨q1, _⟩ := h1 j hjl
    rcases Nat.lt_or_gt_of_ne (h2 i j hij hjl) with hlt | hgt
    · exact h.apart _ _ r r' hlt (p1 ▸ hi) (q1 ▸ hj)
    · exact (h.apart _ _ r' r hgt (q1 ▸ hj) (p1 ▸ hi)).symm

theorem RV_get (rs : List (Option Addr × Nat)) (xss : List (List Int)) (i : Nat) : (RV rs xss)[i]? = (match rs[i]?, xss[i]? with | some r, some xs => some (rowV r xs) | _, _ => none) := by
  unfold RV
  rw [List.getElem?_zipWith]
  cases rs[i]? <;> cases xss[i]? <;> rfl
theorem RV_put (rs : List (Option Addr × Nat)) (xss : List (List Int)) (hl : rs.length = xss.length) (i : Nat) (ra : Option Addr) (rc : Nat) (xs : List Int) : (RV rs xss).set i (.slice ra xs.length rc) = RV (rs.set i (ra, rc)) (xss.set i xs) := by
  apply List.ext_getElem?
  intro j
  rw [List.getElem?_set, RV_get, RV_get, List.getElem?_set, List.getElem?_set, RV_length hl]
  by_cases hij : i = j
  · subst hij
    by_cases hi : i < xss.length
    · simp [hi, hl, rowV]
    · simp [hi, hl]
  · simp [hij]

/-- Rows in other blocks than the top's stay when the top is written. -/
theorem RowsO.top_kept {w w' : World} {B C : Nat} {a : Option Addr} {n c : Nat} {vs : List Value} {rs : List (Option Addr × Nat)} {xss : List (List Int)} (h : RowsO w B C rs xss) (q1 : w.ownsRow B 32 1 (.slice a n c) n vs) (hg : w.grownBy w' (blockOf a)) : RowsO w' B C rs xss := by
  refine h.kept hg fun r hr => ?_
  obtain ⟨i, hi⟩ := List.mem_iff_getElem?.1 hr
  have hil := (List.getElem?_eq_some_iff.1 hi).1
  have hx : xss[i]? = some (xss[i]'(by rw [← h.len]; exact hil)) := List.getElem?_eq_getElem _
  have hap := block_ne q1 (h.row i r _ hi hx).1 ints_ne
  cases hb : blockOf r.1 with
  | none => exact .inl rfl
  | some k => exact .inr (fun e => hap k e.symm hb)

/-- One row is replaced by a new one. -/
theorem OM.put {w : World} {B C C2 g c : Nat} {xss : List (List Int)} {ra : Option Addr} {rc : Nat} {xs : List Int} (h : OM w B C (some ⟨g, 0, none⟩) c xss) (hr : OI w C C2 ra rc xs) (hBC : B ≤ C) (hC : C ≤ C2) {i : Nat} (hi : i < xss.length) :
    OM (w.setCell ⟨g, i, none⟩ (.slice ra xs.length rc)) B C2 (some ⟨g, 0, none⟩) c (xss.set i xs) := by
  obtain ⟨rs, q1, q2, q3⟩ := h
  have s := q1.stored i (.slice ra xs.length rc)
  have hp := q3.push hr hBC hC
  refine ⟨rs.set i (ra, rc), ?_, fun k hk => Nat.lt_of_lt_of_le (q2 k hk) hC, ?_⟩
  · rw [List.length_set, ← RV_put rs xss q3.len]
    exact s.1
  · have hl := q3.len
    refine (hp.top_kept q1 s.2).pick (fun j => if j = i then xss.length else j) (by simp [hl]) (fun j hj => ?_) (fun j k hjk hk => ?_)
    · simp at hj
      by_cases e : j = i
      · subst e
        simp only [if_true]
        rw [List.getElem?_set_self hj, List.getElem?_set_self hi, List.getElem?_append_right (by omega), List.getElem?_append_right (by omega), hl]
        simp
      · simp only [if_neg e]
        rw [List.getElem?_set_ne (by omega), List.getElem?_set_ne (by omega), List.getElem?_append_left (by omega), List.getElem?_append_left (by omega)]
        exact ⟨rfl, rfl⟩
    · simp at hk
      by_cases e : j = i
      · simp only [if_pos e]
        rw [if_neg (by omega)]
        omega
      · simp only [if_neg e]
        split <;> omega

/-- Row p gets what row t was, row t a new one. -/
theorem OM.swap {w w1 : World} {B C g c : Nat} {xss : List (List Int)} {ra : Option Addr} {rc : Nat} {xs : List Int} {rt : Option Addr} {rtc : Nat} {t p : Nat} (rs : List (Option Addr × Nat))
    (q1 : w.ownsRow B 32 1 (.slice (some ⟨g, 0, none⟩) xss.length c) xss.length (RV rs xss)) (q2 : g < C) (q3 : RowsO w B C rs xss) (ht : t < xss.length) (hp : p < xss.length)
    (hrt : rs[t]? = some (rt, rtc)) (he : Ext (w.setCell ⟨g, p, none⟩ (.slice rt (xss.getD t []).length rtc)) w1) (hC : C ≤ w.heap.size)
    (hr : OI w1 w.heap.size w1.heap.size ra rc xs) (hBC : B ≤ C) :
    OM (w1.setCell ⟨g, t, none⟩ (.slice ra xs.length rc)) B w1.heap.size (some ⟨g, 0, none⟩) c ((xss.set p (xss.getD t [])).set t xs) := by
  have hl := q3.len
  have s1 := q1.stored p (.slice rt (xss.getD t []).length rtc)
  have hz1 := he.size_le
  simp at hz1
  have s1' : w1.ownsRow B 32 1 (.slice (some ⟨g, 0, none⟩) xss.length c) xss.length ((RV rs xss).set p (.slice rt (xss.getD t []).length rtc)) := ownsRow_of_block s1.1 fun k hk => he.block_eq (ownsRow_block s1.1 k hk).2
  have s2 := s1'.stored t (.slice ra xs.length rc)
  have r1 := ((q3.top_kept q1 s1.2).ext he).mono (C := B) (C2 := w.heap.size) (Nat.le_refl _) hC
  have r2 := (r1.push hr (by omega) hz1).top_kept s1' s2.2
  refine ⟨(rs.set p (rt, rtc)).set t (ra, rc), ?_, fun k hk => ?_, ?_⟩
  · have e1 := RV_put rs xss hl p rt rtc (xss.getD t [])
    have e2 := RV_put (rs.set p (rt, rtc)) (xss.set p (xss.getD t [])) (by simp [hl]) t ra rc xs
    rw [← e1] at e2
    rw [← e2]
    simpa using s2.1
  · simp [blockOf] at hk
    omega
  · have hgt : xss[t]? = some (xss.getD t []) := by simp [List.getD, ht]
    refine r2.pick (fun j => if j = t then xss.length else if j = p then t else j) (by simp [hl]) (fun j hj => ?_) (fun j k hjk hk => ?_)
    · simp at hj
      by_cases e : j = t
      · subst e
        simp only [if_true]
        rw [List.getElem?_set_self (by simp; omega), List.getElem?_set_self (by simp; omega), List.getElem?_append_right (by omega), List.getElem?_append_right (by omega), hl]
        simp
      · simp only [if_neg e]
        have e' : ¬ t = j := fun h => e h.symm
        rw [List.getElem?_set_ne e', List.getElem?_set_ne e']
        by_cases e2 : j = p
        · subst e2
          simp only [if_true]
          rw [List.getElem?_set_self (by omega), List.getElem?_set_self (by omega), List.getElem?_append_left (by omega), List.getElem?_append_left (by omega), hrt, hgt]
          exact ⟨rfl, rfl⟩
        · simp only [if_neg e2]
          have e3 : ¬ p = j := fun h => e2 h.symm
          rw [List.getElem?_set_ne e3, List.getElem?_set_ne e3, List.getElem?_append_left (by omega), List.getElem?_append_left (by omega)]
          exact ⟨rfl, rfl⟩
    · simp at hk
      show (if _ then _ else _) ≠ (if _ then _ else _)
      split <;> split <;> (try split) <;> (try split) <;> omega

/-- The first k of the rows. -/
theorem OM.take {w : World} {B C : Nat} {a : Option Addr} {c : Nat} {xss : List (List Int)} (h : OM w B C a c xss) {k : Nat} (hk : k ≤ xss.length) : OM w B C a c (xss.take k) := by
  obtain ⟨rs, q1, q2, q3⟩ := h
  have hl := q3.len
  refine ⟨rs.take k, ?_, q2, q3.pick (fun i => i) (by simp [hl]) (fun i hi => ?_) (fun i j hij _ => by omega)⟩
  · have := ownsRow_down q1 k hk
    have e : (RV rs xss).take k = RV (rs.take k) (xss.take k) := by unfold RV; rw [List.take_zipWith]
    rw [← e, List.length_take, Nat.min_eq_left hk]
    exact this
  · simp at hi
    rw [List.getElem?_take, List.getElem?_take, if_pos (by omega), if_pos (by omega)]
    exact ⟨rfl, rfl⟩

/-- A row put in at place i. -/
def insAt (xss : List (List Int)) (i : Nat) (xs : List Int) : List (List Int) := xss.take i ++ xs :: xss.drop i
theorem insAt_length {xss : List (List Int)} {i : Nat} {xs : List Int} (h : i ≤ xss.length) : (insAt xss i xs).length = xss.length + 1 := by simp [insAt]; omega
theorem insL_get {α : Type} {l : List α} {i : Nat} {x : α} (h : i ≤ l.length) (j : Nat) : (l.take i ++ x :: l.drop i)[j]? = if j < i then l[j]? else if j = i then some x else l[j - 1]? := by
  by_cases h1 : j < i
  · rw [if_pos h1, List.getElem?_append_left (by simp; omega), List.getElem?_take, if_pos h1]
  · rw [if_neg h1, List.getElem?_append_right (by simp; omega), List.length_take, Nat.min_eq_left h]
    by_cases h2 : j = i
    · rw [if_pos h2, h2, Nat.sub_self]; rfl
    · rw [if_neg h2, show j - i = (j - i - 1) + 1 by omega, List.getElem?_cons_succ, List.getElem?_drop, show i + (j - i - 1) = j - 1 by omega]
/-- What an insertion leaves: the top's cells are the old ones with the new one among them. -/
theorem OM.inserted {w w' : World} {B C : Nat} {a a' : Option Addr} {c c' n i : Nat} {xss : List (List Int)} {rs : List (Option Addr × Nat)} {ra : Option Addr} {rc : Nat} {xs : List Int} {vs : List Value}
    (q1 : w.ownsRow B 32 1 (.slice a n c) n vs) (q3 : RowsO w B C rs xss) (hrow : OI w C w.heap.size ra rc xs) (hBC : B ≤ C) (hC : C ≤ w.heap.size) (hi : i ≤ xss.length)
    (h1 : w'.ownsRow B 32 1 (.slice a' (xss.length + 1) c') (xss.length + 1) ((RV rs xss).take i ++ .slice ra xs.length rc :: (RV rs xss).drop i)) (h2 : w.grownBy w' (blockOf a)) : OM w' B w'.heap.size a' c' (insAt xss i xs) := by
  have hl := q3.len
  have hp := (q3.push hrow hBC hC).top_kept q1 h2
  refine ⟨rs.take i ++ (ra, rc) :: rs.drop i, ?_, fun k hk => (ownsRow_block h1 k hk).2, (hp.mono (Nat.le_refl _) h2.size).pick (fun j => if j < i then j else if j = i then xss.length else j - 1) (by simp [insAt, hl]) (fun j hj => ?_) (fun j k hjk hk => ?_)⟩
  · have e : RV (rs.take i ++ (ra, rc) :: rs.drop i) (insAt xss i xs) = (RV rs xss).take i ++ .slice ra xs.length rc :: (RV rs xss).drop i := by
      unfold RV insAt
      rw [List.zipWith_append (by simp [hl]), List.zipWith_cons_cons, List.take_zipWith, List.drop_zipWith]
      rfl
    rw [e, insAt_length hi]
    exact h1
  · simp at hj
    unfold insAt
    rw [insL_get (by omega), insL_get hi]
    by_cases e1 : j < i
    · simp only [if_pos e1]
      rw [List.getElem?_append_left (by omega), List.getElem?_append_left (by omega)]
      exact ⟨rfl, rfl⟩
    · by_cases e2 : j = i
      · simp only [if_neg e1, if_pos e2]
        rw [List.getElem?_append_right (by omega), List.getElem?_append_right (by omega), hl]
        simp
      · simp only [if_neg e1, if_neg e2]
        rw [List.getElem?_append_left (by omega), List.getElem?_append_left (by omega)]
        exact ⟨rfl, rfl⟩
  · have hk' : k ≤ xss.length := by simp at hk; omega
    clear hk
    by_cases a1 : j < i
    · rw [if_pos a1]
      by_cases b1 : k < i
      · rw [if_pos b1]; omega
      · rw [if_neg b1]
        by_cases b2 : k = i
        · rw [if_pos b2]; omega
        · rw [if_neg b2]; omega
    · rw [if_neg a1, if_neg (by omega : ¬ k < i), if_neg (by omega : ¬ k = i)]
      by_cases a2 : j = i
      · rw [if_pos a2]; omega
      · rw [if_neg a2]; omega

end Go.Proofs.Ytkegknophppdgaa
