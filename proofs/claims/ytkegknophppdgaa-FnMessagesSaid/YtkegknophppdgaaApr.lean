/- append of several elements of several cells, for reading only. -/
import Derived.Test.YtkegknophppdgaaGns
namespace Go.Proofs.Ytkegknophppdgaa
open Go.RowKit
set_option linter.unusedVariables false
set_option maxRecDepth 20000

section
variable {α η : Type} {K : Knd α η}
/-- A slice that is ours in w, whose elements can be read in w0. -/
def RS (K : Knd α η) (w0 w : World) (B : Nat) (a : Option Addr) (c : Nat) (xs : List α) : Prop :=
  ∃ hs : List η, hs.length = xs.length ∧ w.ownsRow B K.e K.sz (.slice a xs.length c) xs.length (flat K hs xs) ∧ ∀ (i : Nat) (h : η) (x : α), hs[i]? = some h → xs[i]? = some x → K.read w0 h x

theorem RS.reads (OK : K.Ok) {w0 w : World} {B : Nat} {a : Option Addr} {c : Nat} {xs : List α} (h : RS K w0 w B a c xs) (he : Ext w0 w) : SR K w a xs := by
  obtain ⟨hs, h1, h2, h3⟩ := h
  refine ⟨hs, h1, ?_, fun i h x hh hx => OK.rext (h3 i h x hh hx) he⟩
  intro i hi
  rcases h2.2 with ⟨hv, hn⟩ | ⟨g, cap, cur, hv, hB, hg, hnc, hcm, hcs, htake⟩
  · rw [flat_len OK h1, hn, Nat.zero_mul] at hi
    omega
  · injection hv with h4 h5 h6
    subst h4
    refine ⟨g, 0, rfl, ?_⟩
    have hc : cur.toList[i]? = some ((flat K hs xs)[i]'hi) := by
      have h7 : (cur.toList.take (xs.length * K.sz))[i]? = (flat K hs xs)[i]? := by rw [htake]
      rw [List.getElem?_take_of_lt (by rw [flat_len OK h1] at hi; exact hi), List.getElem?_eq_getElem hi] at h7
      exact h7
    rw [cell_of_row _ g (0 + i) cur K.e (0, 0) hg, Nat.zero_add, ← Array.getElem?_toList, hc]

theorem RS.new (w0 w : World) (B : Nat) (hB : B ≤ w.heap.size) : RS K w0 (w.alloc (.cells #[] K.e)) B (some ⟨w.heap.size, 0, none⟩) 0 [] :=
  ⟨[], rfl, ⟨by simp [flat], .inr ⟨w.heap.size, 0, #[], rfl, hB, heap_alloc_new w _, Nat.le_refl _, by unfold maxLen; omega, by simp, by simp [flat]⟩⟩, fun i h x hh => by simp at hh⟩
theorem RS.ext {w0 w w' : World} {B : Nat} {a : Option Addr} {c : Nat} {xs : List α} (h : RS K w0 w B a c xs) (he : Ext w w') : RS K w0 w' B a c xs := by
  obtain ⟨hs, h1, h2, h3⟩ := h
  exact ⟨hs, h1, ownsRow_of_blockS h2 fun k hk => he.block_eq (ownsRow_blockS h2 k hk).2, h3⟩

theorem flat_split {hs : List η} {xs : List α} (h : hs.length = xs.length) (k : Nat) : flat K hs xs = flat K (hs.take k) (xs.take k) ++ flat K (hs.drop k) (xs.drop k) := by
  unfold flat
  rw [← List.flatten_append, ← List.zipWith_append (by simp [h]), List.take_append_drop, List.take_append_drop]
theorem SR.takeS {w : World} {a : Option Addr} {xs : List α} (h : SR K w a xs) (k : Nat) : SR K w a (xs.take k) := by
  obtain ⟨hs, h1, h2, h3⟩ := h
  rw [flat_split h1 k] at h2
  refine ⟨hs.take k, by simp [h1], fun i hi => ?_, fun i h x hh hx => ?_⟩
  · obtain ⟨b, o, hb, hc⟩ := h2 i (by rw [List.length_append]; omega)
    rw [List.getElem_append_left hi] at hc
    exact ⟨b, o, hb, hc⟩
  · have h4 := (List.getElem?_eq_some_iff.1 hh).1
    rw [List.length_take] at h4
    rw [List.getElem?_take_of_lt (by omega)] at hh hx
    exact h3 i h x hh hx
theorem SR.dropS (OK : K.Ok) {w : World} {b o : Nat} {xs : List α} (h : SR K w (some ⟨b, o, none⟩) xs) (k : Nat) (hk : k ≤ xs.length) : SR K w (some ⟨b, o + k * K.sz, none⟩) (xs.drop k) := by
  obtain ⟨hs, h1, h2, h3⟩ := h
  rw [flat_split h1 k] at h2
  have hl : (flat K (hs.take k) (xs.take k)).length = k * K.sz := by rw [flat_len OK (by simp [h1]), List.length_take, Nat.min_eq_left hk]
  refine ⟨hs.drop k, by simp [h1], fun i hi => ?_, fun i h x hh hx => ?_⟩
  · obtain ⟨b', o', hb, hc⟩ := h2 (k * K.sz + i) (by rw [List.length_append]; omega)
    rw [List.getElem_append_right (by omega)] at hc
    injection hb with hb
    injection hb with e1 e2
    subst e1 e2
    refine ⟨b, o + k * K.sz, rfl, ?_⟩
    rw [Nat.add_assoc, hc]
    simp only [hl, Nat.add_sub_cancel_left]
  · rw [List.getElem?_drop] at hh hx
    exact h3 _ h x hh hx

theorem step_of {ops : Array Oper} {o : Oper} {a : Act} {w : World} {J : Act → World → Prop} {Q : Exit → Act → World → Prop} {E : Prop} (hgd : o.guard = none) (h : Oper.wp Try.prog o a w J Q) :
    if Region.wanted o (yielded ops a.tmps) = true then Oper.wp Try.prog o a w J Q else E := by
  have hw : Region.wanted o (yielded ops a.tmps) = true := by simp [Region.wanted, hgd]
  rw [if_pos hw]
  exact h

theorem oper_appRead {o : Oper} {a : Act} {J : Act → World → Prop} {Q : Exit → Act → World → Prop} (OK : K.Ok) (t : TypeId) (i : TypeInfo) (z : Value) (bytes : Nat) (w w0 : World) (s x : Operand)
    (ho : o.op = .call { callee := .builtin .append, args := #[s, x], argTypes := #[t, t] }) (ht : Try.prog.underlying t = some (.slice K.e)) (hi : Try.prog.info? K.e = some i) (hz : i.zero = some z) (hsize : i.size = K.sz) (hby : i.bytes = bytes) (hzs : z.cells.size = K.sz) (hbl : bytes ≤ 64)
    (B : Nat) (a0 : Option Addr) (c : Nat) (xs : List α) (hs : a.eval s = .slice a0 xs.length c) (hown : RS K w0 w B a0 c xs) (h0 : Ext w0 w) (hBw : w0.heap.size ≤ B)
    (b2 o2 : Nat) (m d : Nat) (ys : List α) (hx : a.eval x = .slice (some ⟨b2, o2, none⟩) m d) (hm : m = ys.length) (hv : SR K w0 (some ⟨b2, o2, none⟩) ys)
    (zss : List α) (hy : zss = xs ++ ys) (h63 : xs.length + ys.length ≤ 1099511627776) (hB : B ≤ w.heap.size)
    (h : ∀ a' c' w', RS K w0 w' B a' c' zss → Ext w0 w' → J (a.put o.dst (.slice a' zss.length c')) w') :
    Oper.wp Try.prog o a w J Q := by
  subst hm
  have hsl := hs
  clear hs
  obtain ⟨hs, h1, h2, h3⟩ := hown
  obtain ⟨ks, k1, k2, k3⟩ := hv
  have hnews : ∀ j u, (flat K ks ys)[j]? = some u → w.cell? ((⟨b2, o2, none⟩ : Addr).add j) = some u := by
    intro j u hu
    obtain ⟨hj, rfl⟩ := List.getElem?_eq_some_iff.1 hu
    obtain ⟨b', o', hab, hc⟩ := k2 j hj
    injection hab with hab
    injection hab with e1 e2
    subst e1 e2
    rw [Addr.add_lit]
    exact h0.cell hc
  have hone : ∀ u ∈ flat K ks ys, u.oneCell' = true := fun u hu => by
    unfold flat at hu
    obtain ⟨l, hl, hu⟩ := List.mem_flatten.1 hu
    obtain ⟨j, hj, rfl⟩ := List.mem_iff_getElem.1 hl
    rw [List.getElem_zipWith] at hu
    exact OK.one _ _ _ hu
  have hb0 := ownsRow_blockS h2
  obtain ⟨v', w', hr, g1, g2, g3, g4⟩ := run_append_own_at (P := Try.prog) w B t o.type K.e i z K.sz bytes ht hi hz hsize hby hzs OK.pos _ xs.length _ h2 ⟨b2, o2, none⟩ ys.length d (flat K ks ys) (flat_len OK k1) hnews hone (by unfold maxLen; omega) (Nat.le_trans (Nat.mul_le_mul h63 hbl) (by omega)) hB
  rw [ownBlock_slice] at g2 g4
  have hfl : flat K hs xs ++ flat K ks ys = flat K (hs ++ ks) zss := by
    rw [hy]
    unfold flat
    rw [List.zipWith_append h1, List.flatten_append]
  have hl : zss.length = xs.length + ys.length := by rw [hy]; simp
  have hread : ∀ (i : Nat) (h : η) (x : α), (hs ++ ks)[i]? = some h → zss[i]? = some x → K.read w0 h x := fun i h x hh hx => by
    rw [hy] at hx
    by_cases hi : i < hs.length
    · rw [List.getElem?_append_left hi] at hh
      rw [List.getElem?_append_left (by omega)] at hx
      exact h3 i h x hh hx
    · rw [List.getElem?_append_right (by omega)] at hh
      rw [List.getElem?_append_right (by omega), ← h1] at hx
      exact k3 _ h x hh hx
  have hE : Ext w0 w' := h0.grown g2 fun k hk => by have := (hb0 k hk).1; omega
  rw [hfl, ← hl] at g1
  unfold Oper.wp execOp
  simp only [ho, resolve, invoke, builtin, Sem.run_bind, Sem.run_pure, Result.andThen_ok, List.map_toArray, List.map_cons, List.map_nil, hsl, hx, hr]
  rcases g1.2 with ⟨rfl, hn0⟩ | ⟨g, cap, cur, rfl, rest⟩
  · have := h none 0 w' ⟨hs ++ ks, by simp [h1, k1, hl], by rw [hn0]; rw [hn0] at g1; exact g1, hread⟩ hE
    rw [hn0] at this
    exact this
  · exact h (some ⟨g, 0, none⟩) cap w' ⟨hs ++ ks, by simp [h1, k1, hl], g1, hread⟩ hE
end

end Go.Proofs.Ytkegknophppdgaa
