/- Plain: a packet read back from its bytes. No program is named here. -/
import Derived.Test.YtkegknophppdgaaRd
import Derived.Test.YtkegknophppdgaaEncPk
namespace Go.Proofs.Ytkegknophppdgaa
set_option linter.unusedVariables false
set_option maxRecDepth 20000

open Classical in
/-- The packet whose bytes these are. -/
noncomputable def decPk (b : List Int) : Option (Int × List Int × List Int) :=
  if h : ∃ p : Int × List Int × List Int, ownPk p.1 p.2.1 p.2.2 = true ∧ encPk p.1 p.2.1 p.2.2 = b then some (Classical.choose h) else none

theorem AllEl.allR {xs : List Int} (h : AllEl xs) : AllR xs := fun x hx => by
  have := inR_true.1 (h x hx)
  exact inR_true.2 ⟨by omega, by omega⟩
theorem AllR.append {xs ys : List Int} (h : AllR xs) (h' : AllR ys) : AllR (xs ++ ys) := fun x hx => (List.mem_append.1 hx).elim (h x) (h' x)
theorem AllR.len3 {n : Int} {k j : Nat} (hn : 0 ≤ n ∧ n ≤ 1000000000000) (hk : k ≤ 40) (hj : j ≤ 40) : AllR [n, (k : Int), (j : Int)] := fun x hx => by
  simp at hx
  rcases hx with rfl | rfl | rfl <;> exact inR_true.2 ⟨by omega, by omega⟩

/-- How the bytes of a valid packet are read. -/
theorem pk_parts {n : Int} {xs ys b : List Int} (h : ownPk n xs ys = true) (he : encPk n xs ys = b) :
    ∃ e1 e2, rdTo b 0 3 = some ([n, (xs.length : Int), (ys.length : Int)], e1) ∧ rdTo b e1 xs.length = some (xs, e2) ∧ rdTo b e2 ys.length = some (ys, b.length) ∧ rdTo b e1 (xs.length + ys.length) = some (xs ++ ys, b.length) ∧ e1 ≤ b.length ∧ e2 ≤ b.length ∧ 0 < b.length := by
  obtain ⟨h1, h2, h3, h4, h5, h6, h7, h8⟩ := ownPk_bounds h
  have a1 := (validV_true.1 h7).1.allR
  have a2 := (validV_true.1 h8).1.allR
  have a0 := AllR.len3 (n := n) (k := xs.length) (j := ys.length) ⟨h5, h6⟩ (by omega) (by omega)
  rw [encPk_yes h, encInts_append, encInts_append] at he
  have d0 : b.drop 0 = encInts [n, (xs.length : Int), (ys.length : Int)] ++ (encInts xs ++ encInts ys) := by rw [List.drop_zero]; exact he.symm
  have r0 := rdTo_complete _ _ a0 d0
  have d1 := drop_add_of d0
  have r1 := rdTo_complete _ _ a1 d1
  have d2 := drop_add_of d1
  have r2 := rdTo_complete ys [] a2 (by rw [List.append_nil]; exact d2)
  have d3 : b.drop (0 + (encInts [n, (xs.length : Int), (ys.length : Int)]).length) = encInts (xs ++ ys) ++ [] := by rw [List.append_nil, encInts_append]; exact d1
  have r3 := rdTo_complete _ _ (a1.append a2) d3
  have hl : b.length = (encInts [n, (xs.length : Int), (ys.length : Int)]).length + ((encInts xs).length + (encInts ys).length) := by rw [← he]; simp
  have hp : 0 < (encInts [n, (xs.length : Int), (ys.length : Int)]).length := by
    have : (uv n) ≠ [] := by
      unfold uv
      rw [if_pos (inR_true.2 ⟨h5, h6⟩)]
      unfold uvF
      split <;> simp
    rw [encInts_cons, List.length_append]
    have := List.length_pos_iff.2 this
    omega
  refine ⟨_, _, r0, r1, ?_, ?_, by omega, by omega, by omega⟩
  · rw [r2]; congr 2; omega
  · rw [List.length_append] at r3
    rw [r3, encInts_append, List.length_append]; congr 2; omega

theorem decPk_some {n : Int} {xs ys b : List Int} (h : ownPk n xs ys = true) (he : encPk n xs ys = b) : decPk b = some (n, xs, ys) := by
  have hex : ∃ p : Int × List Int × List Int, ownPk p.1 p.2.1 p.2.2 = true ∧ encPk p.1 p.2.1 p.2.2 = b := ⟨(n, xs, ys), h, he⟩
  unfold decPk
  rw [dif_pos hex]
  obtain ⟨c1, c2⟩ := Classical.choose_spec hex
  obtain ⟨e1, e2, p1, p2, p3, _⟩ := pk_parts h he
  obtain ⟨e1', e2', q1, q2, q3, _⟩ := pk_parts c1 c2
  rw [p1] at q1
  simp only [Option.some.injEq, Prod.mk.injEq, List.cons.injEq, and_true] at q1
  obtain ⟨⟨n1, n2, n3⟩, rfl⟩ := q1
  have n2' : xs.length = (Classical.choose hex).2.1.length := by omega
  have n3' : ys.length = (Classical.choose hex).2.2.length := by omega
  rw [← n2', p2] at q2
  simp only [Option.some.injEq, Prod.mk.injEq] at q2
  obtain ⟨x1, rfl⟩ := q2
  rw [← n3', p3] at q3
  simp only [Option.some.injEq, Prod.mk.injEq, and_true] at q3
  rw [n1, x1, q3]
theorem decPk_none {b : List Int} (h : ∀ n xs ys, ownPk n xs ys = true → encPk n xs ys ≠ b) : decPk b = none := by
  unfold decPk
  rw [dif_neg]
  rintro ⟨p, h1, h2⟩
  exact h _ _ _ h1 h2
theorem decPk_sound {n : Int} {xs ys b : List Int} (h : decPk b = some (n, xs, ys)) : ownPk n xs ys = true ∧ encPk n xs ys = b := by
  unfold decPk at h
  split at h
  · rename_i hex
    have := Classical.choose_spec hex
    injection h with h
    rw [h] at this
    exact this
  · cases h

noncomputable def dpN (b : List Int) : Int := match decPk b with | none => 0 | some p => p.1
noncomputable def dpX (b : List Int) : List Int := match decPk b with | none => [] | some p => p.2.1
noncomputable def dpY (b : List Int) : List Int := match decPk b with | none => [] | some p => p.2.2
noncomputable def dpOk (b : List Int) : Bool := match decPk b with | none => false | some _ => true
theorem dp_some {n : Int} {xs ys b : List Int} (h : decPk b = some (n, xs, ys)) : dpN b = n ∧ dpX b = xs ∧ dpY b = ys ∧ dpOk b = true := by simp [dpN, dpX, dpY, dpOk, h]
theorem dp_none {b : List Int} (h : decPk b = none) : dpN b = 0 ∧ dpX b = [] ∧ dpY b = [] ∧ dpOk b = false := by simp [dpN, dpX, dpY, dpOk, h]
theorem dp_len (b : List Int) : (dpX b).length ≤ 1048576 ∧ (dpY b).length ≤ 1048576 := by
  cases h : decPk b with
  | none => obtain ⟨_, h2, h3, _⟩ := dp_none h; rw [h2, h3]; simp
  | some p =>
    obtain ⟨n, xs, ys⟩ := p
    obtain ⟨_, h2, h3, _⟩ := dp_some h
    have := ownPk_bounds (decPk_sound h).1
    rw [h2, h3]
    omega

/-- The program's way: head, then the whole body, then the bytes compared. -/
theorem dec_no_head {b : List Int} (h : rdTo b 0 3 = none) : decPk b = none := decPk_none fun n xs ys h1 h2 => by
  obtain ⟨_, _, p, _⟩ := pk_parts h1 h2
  rw [h] at p
  cases p
theorem dec_big {b : List Int} {n k j : Int} {e : Nat} (h : rdTo b 0 3 = some ([n, k, j], e)) (hk : 8 < k ∨ 16 < j) : decPk b = none := decPk_none fun n xs ys h1 h2 => by
  obtain ⟨_, _, p, _⟩ := pk_parts h1 h2
  have := ownPk_bounds h1
  rw [h] at p
  simp only [Option.some.injEq, Prod.mk.injEq, List.cons.injEq, and_true] at p
  omega
theorem dec_no_body {b : List Int} {n : Int} {k j e : Nat} (h : rdTo b 0 3 = some ([n, (k : Int), (j : Int)], e)) (hb : rdTo b e (k + j) = none) : decPk b = none := decPk_none fun n xs ys h1 h2 => by
  obtain ⟨_, _, p, _, _, q, _⟩ := pk_parts h1 h2
  rw [h] at p
  simp only [Option.some.injEq, Prod.mk.injEq, List.cons.injEq, and_true] at p
  obtain ⟨⟨_, p1, p2⟩, rfl⟩ := p
  obtain rfl : k = xs.length := by omega
  obtain rfl : j = ys.length := by omega
  rw [hb] at q
  cases q
theorem dec_ne {b : List Int} {n : Int} {k j e e' : Nat} {l : List Int} (h : rdTo b 0 3 = some ([n, (k : Int), (j : Int)], e)) (hb : rdTo b e (k + j) = some (l, e')) (hne : encPk n (l.take k) (l.drop k) ≠ b) : decPk b = none := decPk_none fun n' xs ys h1 h2 => by
  obtain ⟨_, _, p, _, _, q, _⟩ := pk_parts h1 h2
  rw [h] at p
  simp only [Option.some.injEq, Prod.mk.injEq, List.cons.injEq, and_true] at p
  obtain ⟨⟨p0, p1, p2⟩, rfl⟩ := p
  obtain rfl : k = xs.length := by omega
  obtain rfl : j = ys.length := by omega
  rw [hb] at q
  simp only [Option.some.injEq, Prod.mk.injEq] at q
  obtain ⟨rfl, rfl⟩ := q
  rw [List.take_left, List.drop_left, p0] at hne
  exact hne h2
theorem dec_eq {b : List Int} {n : Int} {xs ys : List Int} (hb : 0 < b.length) (he : encPk n xs ys = b) : decPk b = some (n, xs, ys) := by
  cases h : ownPk n xs ys
  · rw [encPk_no h] at he
    subst he
    simp at hb
  · exact decPk_some h he

/-- The reference's way: both parts by themselves. -/
theorem dec_own {b : List Int} {n k j : Int} {xs ys : List Int} {e1 e2 : Nat} (hB : AllB b) (h0 : rdTo b 0 3 = some ([n, k, j], e1)) (h1 : rdTo b e1 k.toNat = some (xs, e2)) (h2 : rdTo b e2 j.toNat = some (ys, b.length)) (hk : 0 ≤ k) (hj : 0 ≤ j) (ho : ownPk n xs ys = true) : decPk b = some (n, xs, ys) := by
  obtain ⟨a1, a2, a3, a4⟩ := rdTo_sound hB _ _ _ h0
  obtain ⟨b1, b2, b3, b4⟩ := rdTo_sound hB _ _ _ h1
  obtain ⟨c1, c2, c3, c4⟩ := rdTo_sound hB _ _ _ h2
  refine decPk_some ho ?_
  rw [List.drop_length, List.append_nil] at c3
  rw [encPk_yes ho, encInts_append, encInts_append, ← c3, ← b3, show (xs.length : Int) = k by omega, show (ys.length : Int) = j by omega, ← a3, List.drop_zero]
theorem dec_no_x {b : List Int} {n k j : Int} {e1 : Nat} (h0 : rdTo b 0 3 = some ([n, k, j], e1)) (h1 : ¬ k ≤ 100 ∨ rdTo b e1 k.toNat = none) : decPk b = none := decPk_none fun n xs ys o1 o2 => by
  obtain ⟨_, _, p, q, _⟩ := pk_parts o1 o2
  have := ownPk_bounds o1
  rw [h0] at p
  simp only [Option.some.injEq, Prod.mk.injEq, List.cons.injEq, and_true] at p
  obtain ⟨⟨p0, p1, p2⟩, rfl⟩ := p
  rcases h1 with h1 | h1
  · omega
  · rw [show k.toNat = xs.length by omega, q] at h1
    cases h1
theorem dec_no_y {b : List Int} {n k j : Int} {e1 e2 : Nat} {l : List Int} (h0 : rdTo b 0 3 = some ([n, k, j], e1)) (h1 : rdTo b e1 k.toNat = some (l, e2)) (h2 : ¬ j ≤ 100 ∨ rdTo b e2 j.toNat = none ∨ ∃ m e3, rdTo b e2 j.toNat = some (m, e3) ∧ (e3 ≠ b.length ∨ ownPk n l m = false)) : decPk b = none := decPk_none fun n xs ys o1 o2 => by
  obtain ⟨_, _, p, q, r, _⟩ := pk_parts o1 o2
  have := ownPk_bounds o1
  rw [h0] at p
  simp only [Option.some.injEq, Prod.mk.injEq, List.cons.injEq, and_true] at p
  obtain ⟨⟨p0, p1, p2⟩, rfl⟩ := p
  rw [show k.toNat = xs.length by omega, q] at h1
  simp only [Option.some.injEq, Prod.mk.injEq] at h1
  obtain ⟨rfl, rfl⟩ := h1
  rcases h2 with h2 | h2 | ⟨m, e3, h2, h3⟩
  · omega
  · rw [show j.toNat = ys.length by omega, r] at h2
    cases h2
  · rw [show j.toNat = ys.length by omega, r] at h2
    simp only [Option.some.injEq, Prod.mk.injEq] at h2
    obtain ⟨rfl, rfl⟩ := h2
    rcases h3 with h3 | h3
    · exact h3 rfl
    · rw [p0, o1] at h3
      cases h3

end Go.Proofs.Ytkegknophppdgaa
