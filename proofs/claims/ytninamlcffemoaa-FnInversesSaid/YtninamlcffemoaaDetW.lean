/- Contract of the reference's Determinant. -/
import Derived.Test.YtninamlcffemoaaRowR
namespace Go.Proofs.Ytninamlcffemoaa
open Go.RowKit
set_option linter.unusedVariables false
set_option maxRecDepth 20000

/-- Two rows change places: what is written first and last. -/
theorem OM.exch {w : World} {B C g c : Nat} {xss : List (List Int)} (h : OM w B C (some ⟨g, 0, none⟩) c xss) {k p : Nat} (hk : k < xss.length) (hp : p < xss.length) :
    ∃ rk ck rp cp, w.cell? ⟨g, k, none⟩ = some (.slice rk (xss.getD k []).length ck) ∧ w.cell? ⟨g, p, none⟩ = some (.slice rp (xss.getD p []).length cp) ∧ (∀ i, w.frozen? ⟨g, i, none⟩ = false) ∧
      OM ((w.setCell ⟨g, p, none⟩ (.slice rk (xss.getD k []).length ck)).setCell ⟨g, k, none⟩ (.slice rp (xss.getD p []).length cp)) B C (some ⟨g, 0, none⟩) c (dSwap xss k p) ∧
      (k ≠ p → OM ((w.setCell ⟨g, k, none⟩ (.slice rp (xss.getD p []).length cp)).setCell ⟨g, p, none⟩ (.slice rk (xss.getD k []).length ck)) B C (some ⟨g, 0, none⟩) c (dSwap xss k p)) := by
  obtain ⟨rs, q1, q2, q3⟩ := h
  have hl := q3.len
  obtain ⟨⟨rk, ck⟩, hrk⟩ : ∃ r, rs[k]? = some r := ⟨_, List.getElem?_eq_getElem (by rw [hl]; exact hk)⟩
  obtain ⟨⟨rp, cp⟩, hrp⟩ : ∃ r, rs[p]? = some r := ⟨_, List.getElem?_eq_getElem (by rw [hl]; exact hp)⟩
  have hgk : xss[k]? = some (xss.getD k []) := getD_get hk
  have hgp : xss[p]? = some (xss.getD p []) := getD_get hp
  refine ⟨rk, ck, rp, cp, ?_, ?_, fun i => q1.frozenAt i, ?_, fun hne => ?_⟩
  · rw [q1.cellAt k (by omega), RV_get, hrk, hgk]; rfl
  · rw [q1.cellAt p (by omega), RV_get, hrp, hgp]; rfl
  · have s1 := q1.stored p (.slice rk (xss.getD k []).length ck)
    have s2 := s1.1.stored k (.slice rp (xss.getD p []).length cp)
    have r2 := (q3.top_kept q1 s1.2).top_kept s1.1 s2.2
    refine ⟨(rs.set p (rk, ck)).set k (rp, cp), ?_, q2, ?_⟩
    · have e1 := RV_put rs xss hl p rk ck (xss.getD k [])
      have e2 := RV_put (rs.set p (rk, ck)) (xss.set p (xss.getD k [])) (by simp [hl]) k rp cp (xss.getD p [])
      rw [← e1] at e2
      unfold dSwap
      rw [← e2]
      simpa using s2.1
    · unfold dSwap
      refine r2.pick (fun j => if j = k then p else if j = p then k else j) (by simp [hl]) (fun j hj => ?_) (fun i j hij hj => ?_)
      · simp at hj
        by_cases e : j = k
        · subst e
          simp only [if_true]
          rw [List.getElem?_set_self (by simp; omega), List.getElem?_set_self (by simp; omega), hrp, hgp]
          exact ⟨rfl, rfl⟩
        · have e' : ¬ k = j := fun h => e h.symm
          simp only [if_neg e]
          rw [List.getElem?_set_ne e', List.getElem?_set_ne e']
          by_cases e2 : j = p
          · subst e2
            simp only [if_true]
            rw [List.getElem?_set_self (by omega), List.getElem?_set_self (by omega), hrk, hgk]
            exact ⟨rfl, rfl⟩
          · have e3 : ¬ p = j := fun h => e2 h.symm
            simp only [if_neg e2]
            rw [List.getElem?_set_ne e3, List.getElem?_set_ne e3]
            exact ⟨rfl, rfl⟩
      · simp at hj
        show (if _ then _ else _) ≠ (if _ then _ else _)
        split <;> split <;> (try split) <;> (try split) <;> omega
  · have s1 := q1.stored k (.slice rp (xss.getD p []).length cp)
    have s2 := s1.1.stored p (.slice rk (xss.getD k []).length ck)
    have r2 := (q3.top_kept q1 s1.2).top_kept s1.1 s2.2
    have hsw : dSwap xss k p = (xss.set k (xss.getD p [])).set p (xss.getD k []) := by
      unfold dSwap
      exact List.set_comm _ _ (fun e => hne e.symm)
    refine ⟨(rs.set k (rp, cp)).set p (rk, ck), ?_, q2, ?_⟩
    · have e1 := RV_put rs xss hl k rp cp (xss.getD p [])
      have e2 := RV_put (rs.set k (rp, cp)) (xss.set k (xss.getD p [])) (by simp [hl]) p rk ck (xss.getD k [])
      rw [← e1] at e2
      rw [hsw, ← e2]
      simpa using s2.1
    · rw [hsw]
      refine r2.pick (fun j => if j = p then k else if j = k then p else j) (by simp [hl]) (fun j hj => ?_) (fun i j hij hj => ?_)
      · simp at hj
        by_cases e : j = p
        · subst e
          simp only [if_true]
          rw [List.getElem?_set_self (by simp; omega), List.getElem?_set_self (by simp; omega), hrk, hgk]
          exact ⟨rfl, rfl⟩
        · have e' : ¬ p = j := fun h => e h.symm
          simp only [if_neg e]
          rw [List.getElem?_set_ne e', List.getElem?_set_ne e']
          by_cases e2 : j = k
          · subst e2
            simp only [if_true]
            rw [List.getElem?_set_self (by omega), List.getElem?_set_self (by omega), hrp, hgp]
            exact ⟨rfl, rfl⟩
          · have e3 : ¬ k = j := fun h => e2 h.symm
            simp only [if_neg e2]
            rw [List.getElem?_set_ne e3, List.getElem?_set_ne e3]
            exact ⟨rfl, rfl⟩
      · simp at hj
        show (if _ then _ else _) ≠ (if _ then _ else _)
        split <;> split <;> (try split) <;> (try split) <;> omega

theorem detM_bad {m : List (List Int)} (h : (validM m && decide (m.length = cols m)) = false) : detM m = 0 := by unfold detM; rw [h]; rfl
theorem detM_good {m : List (List Int)} (h : (validM m && decide (m.length = cols m)) = true) : detM m = detI m := by unfold detM; rw [if_pos h]
theorem detTo_len {m : List (List Int)} : ∀ {k : Nat} {rows : List (List Int)} {d : Int}, detTo m k = some (rows, d) → rows.length = m.length := by
  intro k
  induction k with
  | zero => intro rows d h; simp [detTo] at h; rw [h.1]
  | succ k ih =>
    intro rows d h
    rw [detTo] at h
    cases hs : detTo m k with
    | none => rw [hs] at h; cases h
    | some s =>
      obtain ⟨r, e⟩ := s
      rw [hs] at h
      simp only [detStep] at h
      split at h
      · injection h with h
        injection h with h1 h2
        rw [← h1, detRows, dclTo_length, dSwap_length]
        exact ih hs
      · cases h
theorem detTo_VR {n : Nat} {m : List (List Int)} (hn : n ≤ 40) (hv : VR n m) (hl : m.length ≤ n) : ∀ {k : Nat} {rows : List (List Int)} {d : Int}, k ≤ m.length → detTo m k = some (rows, d) → VR n rows ∧ 0 ≤ d ∧ d ≤ 1018 := by
  intro k
  induction k with
  | zero => intro rows d _ h; simp [detTo] at h; rw [← h.1, ← h.2]; exact ⟨hv, by omega, by omega⟩
  | succ k ih =>
    intro rows d hk h
    rw [detTo] at h
    cases hs : detTo m k with
    | none => rw [hs] at h; cases h
    | some s =>
      obtain ⟨r, e⟩ := s
      rw [hs] at h
      simp only [detStep] at h
      split at h
      · rename_i hp
        injection h with h
        injection h with h1 h2
        obtain ⟨i1, _⟩ := ih (by omega) hs
        have hlen := detTo_len hs
        rw [← h1, ← h2]
        refine ⟨?_, detD_range _ _ _ _⟩
        unfold detRows
        exact dclTo_VR hn (dSwap_VR hn i1 (by omega) hp) (i1.getD hp).2.1
      · cases h

theorem sq_no {m : List (List Int)} (h : validM m = false) : (validM m && decide (m.length = cols m)) = false := by rw [h]; rfl

set_option maxHeartbeats 1000000 in
theorem specSquare_ok (a : Option Addr) (c : Nat) (m : List (List Int)) (w : World) (h : MatR w a m) (hl : m.length ≤ 1048576) (hr : ∀ xs ∈ m, xs.length ≤ 1048576) :
    Calls Try.prog 74 #[.slice a m.length c] w (Quiet w (.bool (validM m && decide (m.length = cols m)))) := by
  have Q := Lib.hid (specIsValidMatrix_ok a c m w h (by omega) (fun xs hx => Nat.le_trans (hr xs hx) (by omega)))
  clear hr
  cases q1 : validM m
  · rw [q1] at Q
    go_enter Try.func74, Try.ntmps74
    go_wp2_with fail
    (with_reducible refine Q.out.mono ?_)
    rintro e w1 ⟨rfl, q, rfl⟩
    go_wp2_with fail
    go_ret
    exact ⟨rfl, q, rfl⟩
  · rw [q1] at Q
    cases q4 : decide (m.length = cols m)
    · have q5 : ((m.length : Int) == (cols m : Int)) = false := by have := of_decide_eq_false q4; simp; omega
      clear q4
      go_enter Try.func74, Try.ntmps74
      go_wp2_with fail
      (with_reducible refine Q.out.mono ?_)
      rintro e w1 ⟨rfl, q, rfl⟩
      go_wp2_with (go_at_call 26; (with_reducible refine (specColumnsOf_ok _ _ _ _ (h.ext ((Ext.refl w).drewN q))).mono ?_); rintro e w' ⟨rfl, rfl⟩)
      go_ret
      exact ⟨rfl, q, rfl⟩
    · have q5 : ((m.length : Int) == (cols m : Int)) = true := by have := of_decide_eq_true q4; simp; omega
      clear q4
      go_enter Try.func74, Try.ntmps74
      go_wp2_with fail
      (with_reducible refine Q.out.mono ?_)
      rintro e w1 ⟨rfl, q, rfl⟩
      go_wp2_with (go_at_call 26; (with_reducible refine (specColumnsOf_ok _ _ _ _ (h.ext ((Ext.refl w).drewN q))).mono ?_); rintro e w' ⟨rfl, rfl⟩)
      go_ret
      exact ⟨rfl, q, rfl⟩

end Go.Proofs.Ytninamlcffemoaa
