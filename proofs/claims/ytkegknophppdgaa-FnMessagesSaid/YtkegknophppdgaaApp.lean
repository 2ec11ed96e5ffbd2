/- append onto a slice that the call owns, for the element types of this program that take one cell. -/
import Derived.Test.YtkegknophppdgaaMem
import Derived.Maps.AppendAt
namespace Go.Proofs.Ytkegknophppdgaa
open Go.RowKit
set_option linter.unusedVariables false
set_option maxRecDepth 20000

/-- The block that a slice with this address begins in. -/
def blockOf (a : Option Addr) : Option Nat := a.map (·.block)

theorem ownBlock_slice (a : Option Addr) (n c : Nat) : (Value.slice a n c).ownBlock = blockOf a := by cases a <;> rfl

theorem run_app_nil {P : Program} (w : World) (B : Nat) (t ty e : TypeId) (i : TypeInfo) (ht : P.underlying t = some (.slice e)) (hi : P.info? e = some i)
    (a0 : Option Addr) (n c : Nat) (xs : List Value) (hown : w.ownsRow B e 1 (.slice a0 n c) n xs) (d : Nat) : (Builtin.append_ #[t, t] ty #[.slice a0 n c, .slice none 0 d]).run P w = .ok (.slice a0 n c) w := by
  have hnc : n ≤ c := by
    rcases hown.2 with ⟨h, h'⟩ | ⟨g, cap, cur, h, _, _, hnc, _⟩
    · omega
    · injection h with _ _ h3; omega
  cases a0 <;> simp [Builtin.append_, run_underlying ht, sizeOf, typeInfo, hi, Builtin.lenOf, Builtin.firstCells, hnc, storeCells]

theorem run_app {P : Program} (w : World) (B : Nat) (t ty e : TypeId) (i : TypeInfo) (z : Value) (bytes : Nat) (ht : P.underlying t = some (.slice e)) (hi : P.info? e = some i) (hz : i.zero = some z)
    (hsize : i.size = 1) (hby : i.bytes = bytes) (hzs : z.cells.size = 1)
    (a0 : Option Addr) (n c : Nat) (xs : List Value) (hown : w.ownsRow B e 1 (.slice a0 n c) n xs)
    (A : Option Addr) (m d : Nat) (news : List Value) (hm : news.length = m) (hv : Vals w A news) (h1 : ∀ u ∈ news, u.oneCell' = true)
    (h63 : n + m ≤ 1099511627776) (hbytes : bytes ≤ 64) (hbase : B ≤ w.heap.size) :
    ∃ a' c' w', (Builtin.append_ #[t, t] ty #[.slice a0 n c, .slice A m d]).run P w = .ok (.slice a' (n + m) c') w' ∧ w'.ownsRow B e 1 (.slice a' (n + m) c') (n + m) (xs ++ news) ∧ w.grownBy w' (blockOf a0) ∧
      (blockOf a' = blockOf a0 ∨ blockOf a' = some w.heap.size) := by
  cases A with
  | none =>
    have hn : news = [] := by
      cases news with
      | nil => rfl
      | cons u r => obtain ⟨b, o, h, _⟩ := hv 0 (by simp); cases h
    subst hn
    simp at hm
    subst hm
    exact ⟨a0, c, w, run_app_nil w B t ty e i ht hi a0 n c xs hown d, by simpa using hown, World.grownBy.refl w _, .inl rfl⟩
  | some ad =>
    have hnews : ∀ j u, news[j]? = some u → w.cell? (ad.add j) = some u := by
      intro j u hu
      obtain ⟨hj, rfl⟩ := List.getElem?_eq_some_iff.1 hu
      obtain ⟨b, o, hab, hc⟩ := hv j hj
      injection hab with hab
      subst hab
      rw [Addr.add_lit]
      exact hc
    obtain ⟨v', w', hr, h2, h3, h4, h5⟩ := run_append_own_at (P := P) w B t ty e i z 1 bytes ht hi hz hsize hby hzs (by omega) _ n xs hown ad m d news (by omega) hnews h1 (by unfold maxLen; omega) (Nat.le_trans (Nat.mul_le_mul h63 hbytes) (by omega)) hbase
    rw [ownBlock_slice] at h3 h5
    rcases h2.2 with ⟨rfl, hn0⟩ | ⟨g, cap, cur, rfl, rest⟩
    · rw [hn0] at h2 ⊢
      exact ⟨none, 0, w', hr, h2, h3, h5⟩
    · exact ⟨some ⟨g, 0, none⟩, cap, w', hr, h2, h3, h5⟩

theorem wpList_app {P : Program} {ops : Array Oper} {rest : List Oper} {o : Oper} {a : Act} {Q : Exit → Act → World → Prop} (w : World) (hgd : o.guard = none) (s x : Operand) (t : TypeId)
    (ho : o.op = .call { callee := .builtin .append, args := #[s, x], argTypes := #[t, t] })
    (B : Nat) (e : TypeId) (i : TypeInfo) (z : Value) (bytes : Nat) (ht : P.underlying t = some (.slice e)) (hi : P.info? e = some i) (hz : i.zero = some z)
    (hsize : i.size = 1) (hby : i.bytes = bytes) (hzs : z.cells.size = 1)
    (a0 : Option Addr) (n c : Nat) (xs : List Value) (hs : a.eval s = .slice a0 n c) (hown : w.ownsRow B e 1 (.slice a0 n c) n xs)
    (A : Option Addr) (m d : Nat) (news : List Value) (hx : a.eval x = .slice A m d) (hm : news.length = m) (hv : Vals w A news) (h1 : ∀ u ∈ news, u.oneCell' = true)
    (h63 : n + m ≤ 1099511627776) (hbytes : bytes ≤ 64) (hbase : B ≤ w.heap.size)
    (h : ∀ a' c' w', w'.ownsRow B e 1 (.slice a' (n + m) c') (n + m) (xs ++ news) → w.grownBy w' (blockOf a0) → (blockOf a' = blockOf a0 ∨ blockOf a' = some w.heap.size) → wpList P ops Q rest (a.put o.dst (.slice a' (n + m) c')) w') :
    wpList P ops Q (o :: rest) a w := by
  refine wpList_plain hgd fun K hK => ?_
  obtain ⟨a', c', w', hr, h2, h3, h4⟩ := run_app (P := P) w B t o.type e i z bytes ht hi hz hsize hby hzs a0 n c xs hown A m d news hm hv h1 h63 hbytes hbase
  unfold Oper.wp execOp
  simp only [ho, resolve, invoke, builtin, Sem.run_bind, Sem.run_pure, Result.andThen_ok, List.map_toArray, List.map_cons, List.map_nil, hs, hx, hr]
  exact hK _ _ (h a' c' w' h2 h3 h4)

/-- append(xs, news...) for integers: the new list under a name ys, so that its length is not written out. -/
theorem wpList_appI {ops : Array Oper} {rest : List Oper} {o : Oper} {a : Act} {Q : Exit → Act → World → Prop} (w : World) (hgd : o.guard = none) (s x : Operand)
    (ho : o.op = .call { callee := .builtin .append, args := #[s, x], argTypes := #[32, 32] })
    (B : Nat) (a0 : Option Addr) (c : Nat) (xs : List Int) (hs : a.eval s = .slice a0 xs.length c) (hown : OwnI w B a0 c xs)
    (A : Option Addr) (d : Nat) (news : List Int) (hx : a.eval x = .slice A news.length d) (hv : Vals w A (I news))
    (ys : List Int) (hy : ys = xs ++ news) (h63 : xs.length + news.length ≤ 1099511627776) (hbase : B ≤ w.heap.size)
    (h : ∀ a' c' w', OwnI w' B a' c' ys → w.grownBy w' (blockOf a0) → (blockOf a' = blockOf a0 ∨ blockOf a' = some w.heap.size) → wpList Try.prog ops Q rest (a.put o.dst (.slice a' ys.length c')) w') :
    wpList Try.prog ops Q (o :: rest) a w := by
  obtain ⟨i, hi, hz0, hz1, hz2⟩ := info_parts infoInt
  refine wpList_app w hgd s x 32 ho B 3 i (.int .i64 0) 8 Try.underlying32 hi hz0 hz1 hz2 rfl a0 xs.length c (I xs) hs hown A news.length d (I news) hx (by simp) hv (ints_oneCell _ _) h63 (by omega) hbase ?_
  intro a' c' w' h1 h2 h3
  rw [← List.length_append] at h1 ⊢
  rw [← List.map_append] at h1
  subst hy
  exact h a' c' w' h1 h2 h3

/-- The same at a step of a region that draws its order. -/
theorem step_appI {ops : Array Oper} {o : Oper} {a : Act} {K : Act → World → Prop} {Q : Exit → Act → World → Prop} {E : Prop} (w : World) (hgd : o.guard = none) (s x : Operand)
    (ho : o.op = .call { callee := .builtin .append, args := #[s, x], argTypes := #[32, 32] })
    (B : Nat) (a0 : Option Addr) (c : Nat) (xs : List Int) (hs : a.eval s = .slice a0 xs.length c) (hown : OwnI w B a0 c xs)
    (A : Option Addr) (d : Nat) (news : List Int) (hx : a.eval x = .slice A news.length d) (hv : Vals w A (I news))
    (ys : List Int) (hy : ys = xs ++ news) (h63 : xs.length + news.length ≤ 1099511627776) (hbase : B ≤ w.heap.size)
    (h : ∀ a' c' w', OwnI w' B a' c' ys → w.grownBy w' (blockOf a0) → (blockOf a' = blockOf a0 ∨ blockOf a' = some w.heap.size) → K (a.put o.dst (.slice a' ys.length c')) w') :
    if Region.wanted o (yielded ops a.tmps) = true then Oper.wp Try.prog o a w K Q else E := by
  have hw : Region.wanted o (yielded ops a.tmps) = true := by simp [Region.wanted, hgd]
  rw [if_pos hw]
  obtain ⟨i, hi, hz0, hz1, hz2⟩ := info_parts infoInt
  obtain ⟨a', c', w', hr, h2, h3, h4⟩ := run_app (P := Try.prog) w B 32 o.type 3 i (.int .i64 0) 8 Try.underlying32 hi hz0 hz1 hz2 rfl a0 xs.length c (I xs) hown A news.length d (I news) (by simp) hv (ints_oneCell _ _) h63 (by omega) hbase
  unfold Oper.wp execOp
  simp only [ho, resolve, invoke, builtin, Sem.run_bind, Sem.run_pure, Result.andThen_ok, List.map_toArray, List.map_cons, List.map_nil, hs, hx, hr]
  rw [← List.length_append] at h2 ⊢
  rw [← List.map_append] at h2
  subst hy
  exact h a' c' w' h2 h3 h4

theorem OwnI.nil (w : World) (B : Nat) : OwnI w B none 0 [] := World.ownsRow_nil _ _ _ _

/-- A literal's block. -/
theorem Vals.new (w : World) (cs : List Value) (e : TypeId) : Vals (w.alloc (.cells cs.toArray e)) (some ⟨w.heap.size, 0, none⟩) cs := by
  intro i hi
  refine ⟨w.heap.size, 0, rfl, ?_⟩
  rw [cell_of_row _ w.heap.size (0 + i) cs.toArray e (0, 0) (heap_alloc_new w _)]
  simp [hi]

theorem OwnI.new (w : World) (B : Nat) (xs : List Int) (hB : B ≤ w.heap.size) (hl : xs.length ≤ 1099511627776) :
    OwnI (w.alloc (.cells (I xs).toArray 3)) B (some ⟨w.heap.size, 0, none⟩) xs.length xs := by
  have := World.ownsRow_lit (e := 3) (size := 1) (base := B) w (I xs).toArray xs.length hB (by unfold maxLen; omega) (by simp)
  simpa [OwnI] using this

theorem OwnI.kept {w w' : World} {B : Nat} {a : Option Addr} {c : Nat} {xs : List Int} {row : Option Nat} (h : OwnI w B a c xs) (hg : w.grownBy w' row) (hne : blockOf a = none ∨ blockOf a ≠ row) : OwnI w' B a c xs :=
  World.ownsRow.kept h hg (by rw [ownBlock_slice]; exact hne)

theorem OwnI.setCell {w : World} {B : Nat} {a : Option Addr} {c : Nat} {xs : List Int} (h : OwnI w B a c xs) {p : Addr} (hp : p.block < B) (u : Value) : OwnI (w.setCell p u) B a c xs :=
  ownsRow_setCell_below h hp u

/-- The block of an owned slice lies from B on. -/
theorem OwnI.block {w : World} {B : Nat} {a : Option Addr} {c : Nat} {xs : List Int} (h : OwnI w B a c xs) : ∀ k, blockOf a = some k → B ≤ k ∧ k < w.heap.size := fun k hk =>
  World.ownsRow.lt h k (by rw [ownBlock_slice]; exact hk)

theorem OwnI.more {w : World} {B B' : Nat} {a : Option Addr} {c : Nat} {xs : List Int} (h : OwnI w B a c xs) (hB : B' ≤ B) : OwnI w B' a c xs := by
  refine ⟨h.1, ?_⟩
  rcases h.2 with hn | ⟨g, cap, cur, hv, hb, r⟩
  · exact .inl hn
  · exact .inr ⟨g, cap, cur, hv, Nat.le_trans hB hb, r⟩

end Go.Proofs.Ytkegknophppdgaa
