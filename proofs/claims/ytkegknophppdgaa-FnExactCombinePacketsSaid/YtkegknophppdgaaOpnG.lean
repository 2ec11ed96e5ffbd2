/- How an argument that is a slice of generations is opened. -/
import Derived.Test.YtkegknophppdgaaOpen
import Derived.Test.YtkegknophppdgaaGns
import Derived.Deep.SlicePairs
namespace Go.Proofs.Ytkegknophppdgaa
open Go.RowKit Go.ChangeShapes Go.WideShapes
set_option linter.unusedVariables false
set_option maxRecDepth 20000

theorem build_lists {α β : Type} {p : Nat → α → β → Prop} : ∀ l : Nat, (∀ i, i < l → ∃ x y, p i x y) → ∃ (xs : List α) (ys : List β), xs.length = l ∧ ys.length = l ∧ ∀ (i : Nat) (x : α) (y : β), xs[i]? = some x → ys[i]? = some y → p i x y
  | 0, _ => ⟨[], [], rfl, rfl, fun i x y h => by simp at h⟩
  | l + 1, h => by
    obtain ⟨xs, ys, h1, h2, h3⟩ := build_lists l (fun i hi => h i (by omega))
    obtain ⟨x, y, hp⟩ := h l (by omega)
    refine ⟨xs ++ [x], ys ++ [y], by simp [h1], by simp [h2], fun i u v hu hv => ?_⟩
    by_cases hi : i < l
    · rw [List.getElem?_append_left (by omega)] at hu hv
      exact h3 i u v hu hv
    · have hl := (List.getElem?_eq_some_iff.1 hu).1
      simp at hl
      obtain rfl : i = l := by omega
      rw [List.getElem?_append_right (by omega), h1, Nat.sub_self] at hu
      rw [List.getElem?_append_right (by omega), h2, Nat.sub_self] at hv
      simp at hu hv
      subst hu hv
      exact hp

section
variable {H : Type} {enc : TypeId × Value → H} {W : World} {base : Nat} {v : Value} {d : DataW H} {p : List MemPlace}
theorem open_Generations (hv : Value.okWide Try.prog W .any base 68 v) (h : DataW.Trod enc Try.prog W 0 (fun _ => true) true 68 v d p) :
    ∃ a c, ∃ gs : List Gn, v = .slice a gs.length c ∧ SR GK W a gs ∧ gs.length ≤ maxLen ∧ (∀ g ∈ gs, g.2.length ≤ maxLen ∧ ∀ xs ∈ g.2, xs.length ≤ maxLen) := by
  obtain ⟨a0, n0, c0, rfl⟩ := okWide_slice Try.underlying68 hv
  obtain ⟨fuel, hf⟩ := h
  rcases Go.Deep.open_slice_pairs Try.underlying68 Try.underlying50 (by kernel_rfl) rfl rfl (by kernel_rfl) (by kernel_rfl) (by simpa [Value.cells] using hf) with ⟨hcs, _⟩ | ⟨x, l, c', m, n, V0, V1, D0, D1, P0, P1, hcs, _, hl, hm, hmm, _, hrow⟩
  · simp at hcs
    obtain ⟨rfl, rfl, rfl⟩ := hcs
    exact ⟨none, 0, [], rfl, SR.nil _ _, by simp, by simp⟩
  · simp at hcs
    obtain ⟨rfl, rfl, rfl⟩ := hcs
    have hmc : m = c0 := by simpa using hmm
    obtain ⟨b, o, s⟩ := x
    obtain ⟨hs, gs, h1, h2, h3⟩ := build_lists (p := fun i (k : Option Addr × Nat) (g : Gn) => V0 i = .int .i64 g.1 ∧ V1 i = .slice k.1 g.2.length k.2 ∧ MatR W k.1 g.2 ∧ g.2.length ≤ maxLen ∧ (∀ xs ∈ g.2, xs.length ≤ maxLen) ∧ W.cell? ((⟨b, o, s⟩ : Addr).add (i * 2)) = some (V0 i) ∧ W.cell? ((⟨b, o, s⟩ : Addr).add (i * 2 + 1)) = some (V1 i)) n0 (fun i hi => by
      obtain ⟨q0, q1, q2, q3⟩ := hrow i (by omega)
      obtain ⟨u, hu, _, _⟩ := open_trod_int q2
      obtain ⟨ra, rc, xss, hx, hM, g1, g2, _⟩ := open_trod_rows q3
      exact ⟨(ra, rc), (u, xss), hu, hx, hM, g1, g2, q0, q1⟩)
    have hlen := flat_len GK_ok (hs := hs) (xs := gs) (by omega)
    have hmem : ∀ g ∈ gs, g.2.length ≤ maxLen ∧ ∀ xs ∈ g.2, xs.length ≤ maxLen := fun g hg => by
      obtain ⟨i, hi⟩ := List.mem_iff_getElem?.1 hg
      have hil := (List.getElem?_eq_some_iff.1 hi).1
      obtain ⟨_, _, _, g1, g2, _⟩ := h3 i _ g (List.getElem?_eq_getElem (show i < hs.length by omega)) hi
      exact ⟨g1, g2⟩
    refine ⟨some ⟨b, o, s⟩, c0, gs, by rw [h2], ⟨hs, by omega, fun t ht => ?_, fun i k g hk hg => (h3 i k g hk hg).2.2.1⟩, by omega, hmem⟩
    rw [hlen] at ht
    have hsz : GK.sz = 2 := rfl
    rw [hsz] at ht
    have hi : t / 2 < gs.length := by omega
    have hk : hs[t / 2]? = some (hs[t / 2]'(by omega)) := List.getElem?_eq_getElem _
    have hg : gs[t / 2]? = some (gs[t / 2]'hi) := List.getElem?_eq_getElem _
    obtain ⟨v0, v1, _, _, _, q0, q1⟩ := h3 _ _ _ hk hg
    obtain ⟨_, _, _, _, _, q00, _⟩ := h3 0 _ _ (List.getElem?_eq_getElem (show 0 < hs.length by omega)) (List.getElem?_eq_getElem (show 0 < gs.length by omega))
    rw [Nat.zero_mul] at q00
    have hs0 : s = none := by simpa [Addr.add] using World.cell?_spot q00
    subst hs0
    refine ⟨b, o, rfl, ?_⟩
    rw [Addr.add_lit] at q0 q1
    have hfl : (flat GK hs gs)[t]? = (GK.cells (hs[t / 2]'(by omega)) (gs[t / 2]'hi))[t % 2]? := by
      have := flat_get GK_ok hk hg (j := t % 2) (by rw [hsz]; omega)
      rw [hsz, show t / 2 * 2 + t % 2 = t by omega] at this
      exact this
    have hcell : W.cell? ⟨b, o + t, none⟩ = (GK.cells (hs[t / 2]'(by omega)) (gs[t / 2]'hi))[t % 2]? := by
      rcases (by omega : t % 2 = 0 ∨ t % 2 = 1) with e | e
      · rw [e, show o + t = o + t / 2 * 2 by omega, q0, v0]
        rfl
      · rw [e, show o + t = o + (t / 2 * 2 + 1) by omega, q1, v1]
        rfl
    rw [hcell, ← hfl, List.getElem?_eq_getElem]
end

end Go.Proofs.Ytkegknophppdgaa
