/- Slices of structs: elements of several cells with what hangs on them. -/
import Derived.Test.YtkegknophppdgaaRowSet
namespace Go.Proofs.Ytkegknophppdgaa
open Go.RowKit
set_option linter.unusedVariables false
set_option maxRecDepth 20000

/-- How an element lies in memory: x is its datum, h its heads. -/
structure Knd (α η : Type) where
  e : TypeId
  sz : Nat
  zh : η
  zx : α
  cells : η → α → List Value
  own : World → Nat → Nat → η → α → Prop
  read : World → η → α → Prop

structure Knd.Ok {α η : Type} (K : Knd α η) : Prop where
  pos : 0 < K.sz
  len : ∀ h x, (K.cells h x).length = K.sz
  one : ∀ h x, ∀ u ∈ K.cells h x, u.oneCell' = true
  oext : ∀ {w w' B B2 h x}, K.own w B B2 h x → Ext w w' → K.own w' B B2 h x
  ospan : ∀ {w w' B B2 C C2 h x}, K.own w B B2 h x → Span C C2 w w' → (B2 ≤ C ∨ C2 ≤ B) → K.own w' B B2 h x
  /-- a change outside of what the blocks of the range hold -/
  okept : ∀ {w w' B B2 h x}, K.own w B B2 h x → (∀ k, k < w.heap.size → B ≤ k → k < B2 → w'.heap[k]? = w.heap[k]?) → w.heap.size ≤ w'.heap.size → K.own w' B B2 h x
  rext : ∀ {w w' h x}, K.read w h x → Ext w w' → K.read w' h x
  oread : ∀ {w B B2 h x}, K.own w B B2 h x → K.read w h x

section
variable {α η : Type} {K : Knd α η}
def flat (K : Knd α η) (hs : List η) (xs : List α) : List Value := (List.zipWith K.cells hs xs).flatten
def zers (K : Knd α η) (d : Nat) : List Value := (List.replicate d (K.cells K.zh K.zx)).flatten

theorem flatten_get {s : Nat} : ∀ {l : List (List Value)} {i : Nat} {x : List Value} (j : Nat), (∀ y ∈ l, y.length = s) → l[i]? = some x → j < s → l.flatten[i * s + j]? = x[j]?
  | [], i, x, j, _, h, _ => by simp at h
  | y :: r, 0, x, j, hl, h, hj => by
    simp at h
    subst h
    have := hl y (by simp)
    rw [List.flatten_cons, List.getElem?_append_left (by omega), Nat.zero_mul, Nat.zero_add]
  | y :: r, i + 1, x, j, hl, h, hj => by
    simp at h
    have := hl y (by simp)
    rw [List.flatten_cons, List.getElem?_append_right (by rw [this, Nat.add_mul]; omega), this, show (i + 1) * s + j - s = i * s + j by rw [Nat.add_mul]; omega]
    exact flatten_get j (fun z hz => hl z (by simp [hz])) h hj
theorem flatten_len {s : Nat} : ∀ {l : List (List Value)}, (∀ y ∈ l, y.length = s) → l.flatten.length = l.length * s
  | [], _ => by simp
  | y :: r, hl => by
    rw [List.flatten_cons, List.length_append, flatten_len (fun z hz => hl z (by simp [hz])), hl y (by simp), List.length_cons, Nat.add_mul]
    omega
variable (OK : K.Ok)
include OK
theorem flat_mem {hs : List η} {xs : List α} : ∀ y ∈ List.zipWith K.cells hs xs, y.length = K.sz := fun y hy => by
  obtain ⟨i, hi, rfl⟩ := List.mem_iff_getElem.1 hy
  rw [List.getElem_zipWith]
  exact OK.len _ _
theorem flat_len {hs : List η} {xs : List α} (h : hs.length = xs.length) : (flat K hs xs).length = xs.length * K.sz := by
  unfold flat
  rw [flatten_len (flat_mem OK), List.length_zipWith, h, Nat.min_self]
theorem zers_len (d : Nat) : (zers K d).length = d * K.sz := by
  unfold zers
  rw [flatten_len (s := K.sz) (fun y hy => by rw [(List.mem_replicate.1 hy).2]; exact OK.len _ _), List.length_replicate]
theorem flat_get {hs : List η} {xs : List α} {i j : Nat} {h : η} {x : α} (hh : hs[i]? = some h) (hx : xs[i]? = some x) (hj : j < K.sz) : (flat K hs xs)[i * K.sz + j]? = (K.cells h x)[j]? := by
  unfold flat
  refine flatten_get j (flat_mem OK) ?_ hj
  rw [List.getElem?_zipWith, hh, hx]
omit OK in
theorem flat_push {hs : List η} {xs : List α} (h : hs.length = xs.length) (k : η) (x : α) : flat K (hs ++ [k]) (xs ++ [x]) = flat K hs xs ++ K.cells k x := by
  unfold flat
  rw [List.zipWith_append h]
  simp
theorem flat_set {hs : List η} {xs : List α} {i j : Nat} {h : η} {x x' : α} {u : Value} (hl : hs.length = xs.length) (hh : hs[i]? = some h) (hx : xs[i]? = some x) (hj : j < K.sz) (hc : K.cells h x' = (K.cells h x).set j u) : (flat K hs xs).set (i * K.sz + j) u = flat K hs (xs.set i x') := by
  have hil := (List.getElem?_eq_some_iff.1 hx).1
  have hihl := (List.getElem?_eq_some_iff.1 hh).1
  apply List.ext_getElem?
  intro t
  by_cases ht : t < xs.length * K.sz
  · have hd := Nat.div_add_mod t K.sz
    have hm := Nat.mod_lt t OK.pos
    have hq : t / K.sz < xs.length := Nat.div_lt_of_lt_mul (by rw [Nat.mul_comm]; exact ht)
    have ht2 : t = (t / K.sz) * K.sz + t % K.sz := by rw [Nat.mul_comm (t / K.sz)]; omega
    generalize t / K.sz = a at *
    generalize t % K.sz = b at *
    subst ht2
    have hha : hs[a]? = some (hs[a]'(by omega)) := List.getElem?_eq_getElem _
    have hxa : xs[a]? = some (xs[a]'hq) := List.getElem?_eq_getElem _
    rw [List.getElem?_set]
    by_cases e : i = a
    · subst e
      have hx2 : (xs.set i x')[i]? = some x' := List.getElem?_set_self hil
      rw [flat_get OK hh hx2 hm, hc, List.getElem?_set]
      by_cases e2 : j = b
      · subst e2
        rw [if_pos rfl, if_pos rfl, if_pos (by rw [flat_len OK hl]; exact ht), if_pos (by rw [OK.len]; exact hj)]
      · rw [if_neg (by omega), if_neg e2, flat_get OK hh hx hm]
    · have hne : i * K.sz + j ≠ a * K.sz + b := fun e2 => by
        rcases Nat.lt_or_gt_of_ne e with h1 | h1
        · have : (i + 1) * K.sz ≤ a * K.sz := Nat.mul_le_mul_right _ h1
          rw [Nat.add_mul] at this
          omega
        · have : (a + 1) * K.sz ≤ i * K.sz := Nat.mul_le_mul_right _ h1
          rw [Nat.add_mul] at this
          omega
      rw [if_neg hne, flat_get OK hha hxa hm]
      have hx2 : (xs.set i x')[a]? = some (xs[a]'hq) := by rw [List.getElem?_set_ne e]; exact hxa
      rw [flat_get OK hha hx2 hm]
  · rw [List.getElem?_eq_none (by rw [List.length_set, flat_len OK hl]; omega), List.getElem?_eq_none (by rw [flat_len OK (by rw [List.length_set]; exact hl), List.length_set]; omega)]
omit OK in
theorem zers_succ (d : Nat) : zers K (d + 1) = K.cells K.zh K.zx ++ zers K d := by
  unfold zers
  rw [List.replicate_succ, List.flatten_cons]
omit OK

/-- A slice of elements that can be read. -/
def SR (K : Knd α η) (w : World) (a : Option Addr) (xs : List α) : Prop := ∃ hs : List η, hs.length = xs.length ∧ Vals w a (flat K hs xs) ∧ ∀ (i : Nat) (h : η) (x : α), hs[i]? = some h → xs[i]? = some x → K.read w h x
include OK
theorem SR.ext {w w' : World} {a : Option Addr} {xs : List α} (h : SR K w a xs) (he : Ext w w') : SR K w' a xs := by
  obtain ⟨hs, h1, h2, h3⟩ := h
  exact ⟨hs, h1, h2.ext he, fun i h x hh hx => OK.rext (h3 i h x hh hx) he⟩
theorem SR.at_ {w : World} {a : Option Addr} {xs : List α} (h : SR K w a xs) {i : Nat} (hi : i < xs.length) :
    ∃ b o k x, a = some ⟨b, o, none⟩ ∧ b < w.heap.size ∧ Hid (xs[i]? = some x) ∧ (∀ j, j < K.sz → w.cell? ⟨b, o + (i * K.sz + j), none⟩ = (K.cells k x)[j]?) ∧ K.read w k x := by
  obtain ⟨hs, h1, h2, h3⟩ := h
  have hk : hs[i]? = some (hs[i]'(by omega)) := List.getElem?_eq_getElem _
  have hx : xs[i]? = some (xs[i]'hi) := List.getElem?_eq_getElem _
  have hlt : ∀ j, j < K.sz → i * K.sz + j < (flat K hs xs).length := fun j hj => by
    rw [flat_len OK h1]
    have : (i + 1) * K.sz ≤ xs.length * K.sz := Nat.mul_le_mul_right _ hi
    rw [Nat.add_mul] at this
    omega
  obtain ⟨b, o, ha, hc⟩ := h2 (i * K.sz + 0) (hlt 0 OK.pos)
  refine ⟨b, o, _, _, ha, World.block_lt_of_cell? _ _ hc, hx, fun j hj => ?_, h3 i _ _ hk hx⟩
  obtain ⟨b', o', ha', hc'⟩ := h2 (i * K.sz + j) (hlt j hj)
  rw [ha] at ha'
  injection ha' with ha'
  injection ha' with hb ho
  subst hb ho
  rw [hc', ← flat_get OK hk hx hj, List.getElem?_eq_getElem (hlt j hj)]
omit OK in
theorem SR.nil (w : World) (a : Option Addr) : SR K w a [] := ⟨[], rfl, by unfold flat; exact Vals.nil _ _, fun i h x hh => by simp at hh⟩
omit OK

/-- A slice of n elements, the first of which hold xs and the rest nothing, all of it in the range. -/
def OS (K : Knd α η) (w : World) (B B2 : Nat) (a : Option Addr) (c n : Nat) (xs : List α) : Prop :=
  ∃ (hs : List η) (rg : List (Nat × Nat)), hs.length = xs.length ∧ rg.length = xs.length ∧ xs.length ≤ n ∧ w.ownsRow B K.e K.sz (.slice a n c) n (flat K hs xs ++ zers K (n - xs.length)) ∧
    (∀ k, blockOf a = some k → k < B2 ∧ ∀ (i : Nat) (r : Nat × Nat), rg[i]? = some r → k < r.1 ∨ r.2 ≤ k) ∧
    (∀ (i : Nat) (h : η) (r : Nat × Nat) (x : α), hs[i]? = some h → rg[i]? = some r → xs[i]? = some x → B ≤ r.1 ∧ r.1 ≤ r.2 ∧ r.2 ≤ B2 ∧ K.own w r.1 r.2 h x) ∧
    (∀ (i j : Nat) (r s : Nat × Nat), i < j → rg[i]? = some r → rg[j]? = some s → r.2 ≤ s.1)

variable {w w' : World} {B B2 C C2 c n : Nat} {a : Option Addr} {xs : List α}
theorem ownsRow_blockS {e : TypeId} {s : Nat} {vs : List Value} (h : w.ownsRow B e s (.slice a n c) n vs) : ∀ k, blockOf a = some k → B ≤ k ∧ k < w.heap.size := fun k hk =>
  World.ownsRow.lt h k (by rw [ownBlock_slice]; exact hk)
theorem ownsRow_of_blockS {e : TypeId} {s : Nat} {vs : List Value} (h : w.ownsRow B e s (.slice a n c) n vs) (hb : ∀ k, blockOf a = some k → w'.heap[k]? = w.heap[k]?) : w'.ownsRow B e s (.slice a n c) n vs := by
  refine ⟨h.1, ?_⟩
  rcases h.2 with hn | ⟨g, cap, cur, hv, hB, hg, r⟩
  · exact .inl hn
  · refine .inr ⟨g, cap, cur, hv, hB, ?_, r⟩
    rw [hb g (by injection hv with h1; rw [h1]; rfl)]
    exact hg
theorem ownsRow_moreS {e : TypeId} {s : Nat} {v : Value} {vs : List Value} (h : w.ownsRow B e s v n vs) (hB : C ≤ B) : w.ownsRow C e s v n vs := by
  refine ⟨h.1, ?_⟩
  rcases h.2 with hn | ⟨g, cap, cur, hv, hb, r⟩
  · exact .inl hn
  · exact .inr ⟨g, cap, cur, hv, Nat.le_trans hB hb, r⟩
include OK
theorem OS.reads (h : OS K w B B2 a c xs.length xs) : SR K w a xs := by
  obtain ⟨hs, rg, h1, h2, h3, h4, h5, h6, h7⟩ := h
  rw [Nat.sub_self, show zers K 0 = [] from rfl, List.append_nil] at h4
  refine ⟨hs, h1, fun i hi => ?_, fun i h x hh hx => ?_⟩
  · rcases h4.2 with ⟨hv, hn⟩ | ⟨g, cap, cur, hv, _⟩
    · have := h4.1; rw [hn] at this; omega
    · injection hv with g1 g2 g3
      subst g1 g3
      refine ⟨g, 0, rfl, ?_⟩
      rw [Nat.zero_add, h4.cellAt i (by rw [← h4.1]; exact hi), List.getElem?_eq_getElem hi]
  · have hil := (List.getElem?_eq_some_iff.1 hx).1
    exact OK.oread (h6 i h _ x hh (List.getElem?_eq_getElem (by omega)) hx).2.2.2
theorem OS.ext (h : OS K w B B2 a c n xs) (he : Ext w w') : OS K w' B B2 a c n xs := by
  obtain ⟨hs, rg, h1, h2, h3, h4, h5, h6, h7⟩ := h
  exact ⟨hs, rg, h1, h2, h3, ownsRow_of_blockS h4 fun k hk => he.block_eq (ownsRow_blockS h4 k hk).2, h5, fun i h r x hh hr hx => by
    obtain ⟨q1, q2, q3, q4⟩ := h6 i h r x hh hr hx
    exact ⟨q1, q2, q3, OK.oext q4 he⟩, h7⟩
theorem OS.span (h : OS K w B B2 a c n xs) (hs' : Span C C2 w w') (hd : B2 ≤ C ∨ C2 ≤ B) : OS K w' B B2 a c n xs := by
  obtain ⟨hs, rg, h1, h2, h3, h4, h5, h6, h7⟩ := h
  exact ⟨hs, rg, h1, h2, h3, ownsRow_of_blockS h4 fun k hk => hs'.block k (ownsRow_blockS h4 k hk).2 (by have := (ownsRow_blockS h4 k hk).1; have := (h5 k hk).1; omega), h5, fun i h r x hh hr hx => by
    obtain ⟨q1, q2, q3, q4⟩ := h6 i h r x hh hr hx
    exact ⟨q1, q2, q3, OK.ospan q4 hs' (by omega)⟩, h7⟩
omit OK
theorem OS.mono (h : OS K w B B2 a c n xs) (h1' : C ≤ B) (h2' : B2 ≤ C2) : OS K w C C2 a c n xs := by
  obtain ⟨hs, rg, h1, h2, h3, h4, h5, h6, h7⟩ := h
  exact ⟨hs, rg, h1, h2, h3, ownsRow_moreS h4 h1', fun k hk => ⟨Nat.lt_of_lt_of_le (h5 k hk).1 h2', (h5 k hk).2⟩, fun i h r x hh hr hx => by
    obtain ⟨q1, q2, q3, q4⟩ := h6 i h r x hh hr hx
    exact ⟨Nat.le_trans h1' q1, q2, Nat.le_trans q3 h2', q4⟩, h7⟩
theorem OS.nil (w : World) (B B2 : Nat) : OS K w B B2 none 0 0 [] :=
  ⟨[], [], rfl, rfl, Nat.le_refl _, World.ownsRow_nil _ _ _ _, fun k hk => by simp [blockOf] at hk, fun i h r x hh => by simp at hh, fun i j r s _ hr => by simp at hr⟩
theorem OS.new0 (w : World) : OS K (w.alloc (.cells #[] K.e)) w.heap.size (w.alloc (.cells #[] K.e)).heap.size (some ⟨w.heap.size, 0, none⟩) 0 0 [] := by
  refine ⟨[], [], rfl, rfl, Nat.le_refl _, ?_, fun k hk => ?_, fun i h r x hh => by simp at hh, fun i j r s _ hr => by simp at hr⟩
  · exact ⟨by simp [flat, zers], .inr ⟨w.heap.size, 0, #[], rfl, Nat.le_refl _, heap_alloc_new w _, Nat.le_refl _, Nat.zero_le _, by simp, by simp [flat, zers]⟩⟩
  · simp [blockOf] at hk
    subst hk
    exact ⟨by simp, fun i r hr => by simp at hr⟩
/-- Slices of two element types do not begin in one block. -/
theorem block_neS {e e' : TypeId} {s s' m d : Nat} {b : Option Addr} {B' : Nat} {vs us : List Value} (h : w.ownsRow B e s (.slice a n c) n vs) (h' : w.ownsRow B' e' s' (.slice b m d) m us) (hne : e ≠ e') : Apart a b := by
  intro k hk hk'
  rcases h.2 with ⟨hv, _⟩ | ⟨g, cap, cur, hv, _, hg, _⟩
  · injection hv with hv; subst hv; simp [blockOf] at hk
  rcases h'.2 with ⟨hv', _⟩ | ⟨g', cap', cur', hv', _, hg', _⟩
  · injection hv' with hv'; subst hv'; simp [blockOf] at hk'
  injection hv with hv; injection hv' with hv'
  subst hv hv'
  simp [blockOf] at hk hk'
  subst hk hk'
  rw [hg] at hg'
  injection hg' with hg'
  injection hg' with q1 q2 q3
  exact hne q2

/-- What an append of an element leaves. -/
theorem OS.grown {lo hi c' : Nat} {a' : Option Addr} {hs : List η} {rg : List (Nat × Nat)} {k : η} {x : α} (OK : K.Ok)
    (h1 : hs.length = xs.length) (h2 : rg.length = xs.length) (h5 : ∀ k, blockOf a = some k → k < C ∧ ∀ (i : Nat) (r : Nat × Nat), rg[i]? = some r → k < r.1 ∨ r.2 ≤ k)
    (h6 : ∀ (i : Nat) (h : η) (r : Nat × Nat) (x : α), hs[i]? = some h → rg[i]? = some r → xs[i]? = some x → B ≤ r.1 ∧ r.1 ≤ r.2 ∧ r.2 ≤ C ∧ K.own w r.1 r.2 h x)
    (h7 : ∀ (i j : Nat) (r s : Nat × Nat), i < j → rg[i]? = some r → rg[j]? = some s → r.2 ≤ s.1) (ho : K.own w lo hi k x) (hlo : C ≤ lo) (hlh : lo ≤ hi) (hhi : hi ≤ w.heap.size) (hBC : B ≤ C)
    (g1 : w'.ownsRow B K.e K.sz (.slice a' (xs.length + 1) c') (xs.length + 1) (flat K hs xs ++ K.cells k x)) (g2 : w.grownBy w' (blockOf a)) (g3 : blockOf a' = blockOf a ∨ blockOf a' = some w.heap.size) :
    OS K w' B w'.heap.size a' c' (xs.length + 1) (xs ++ [x]) := by
  have hz := g2.size
  have hke : ∀ lo hi h y, K.own w lo hi h y → hi ≤ w.heap.size → (∀ b, blockOf a = some b → b < lo ∨ hi ≤ b) → K.own w' lo hi h y := fun lo hi h y hy hh hb => OK.okept hy (fun b hb1 hb2 hb3 => g2.block b hb1 (fun e => by have := hb b e.symm; omega)) hz
  refine ⟨hs ++ [k], rg ++ [(lo, hi)], by simp [h1], by simp [h2], by simp, ?_, fun b hb => ?_, fun i h r y hh hr hy => ?_, fun i j r s hij hr hs' => ?_⟩
  · rw [flat_push h1, List.length_append, List.length_singleton, Nat.sub_self, show zers K 0 = [] from rfl, List.append_nil]
    exact g1
  · refine ⟨(ownsRow_blockS g1 b hb).2, fun i r hr => ?_⟩
    by_cases hi' : i < rg.length
    · rw [List.getElem?_append_left hi'] at hr
      rcases g3 with g3 | g3
      · exact (h5 b (g3 ▸ hb)).2 i r hr
      · rw [hb] at g3
        injection g3 with g3
        subst g3
        have hx : xs[i]? = some (xs[i]'(by omega)) := List.getElem?_eq_getElem _
        have := (h6 i _ r _ (List.getElem?_eq_getElem (by omega)) hr hx).2.2.1
        omega
    · have hl := (List.getElem?_eq_some_iff.1 hr).1
      simp at hl
      rw [List.getElem?_append_right (by omega), show i - rg.length = 0 by omega] at hr
      simp at hr
      subst hr
      rcases g3 with g3 | g3
      · have := (h5 b (g3 ▸ hb)).1
        exact .inl (by show b < lo; omega)
      · rw [hb] at g3
        injection g3 with g3
        exact .inr (by show hi ≤ b; omega)
  · by_cases hi' : i < hs.length
    · rw [List.getElem?_append_left hi'] at hh
      rw [List.getElem?_append_left (by omega)] at hr hy
      obtain ⟨q1, q2, q3, q4⟩ := h6 i h r y hh hr hy
      exact ⟨q1, q2, by omega, hke _ _ _ _ q4 (by omega) (fun b hb => (h5 b hb).2 i r hr)⟩
    · have hl := (List.getElem?_eq_some_iff.1 hh).1
      simp at hl
      rw [List.getElem?_append_right (by omega), show i - hs.length = 0 by omega] at hh
      rw [List.getElem?_append_right (by omega), show i - rg.length = 0 by omega] at hr
      rw [List.getElem?_append_right (by omega), show i - xs.length = 0 by omega] at hy
      simp at hh hr hy
      subst hh hr hy
      exact ⟨by show B ≤ lo; omega, hlh, by show hi ≤ _; omega, hke lo hi _ _ ho hhi (fun b hb => .inl (by have := (h5 b hb).1; omega))⟩
  · have hjl := (List.getElem?_eq_some_iff.1 hs').1
    simp at hjl
    have hil : i < rg.length := by omega
    rw [List.getElem?_append_left hil] at hr
    by_cases hj' : j < rg.length
    · rw [List.getElem?_append_left hj'] at hs'
      exact h7 i j r s hij hr hs'
    · rw [List.getElem?_append_right (by omega), show j - rg.length = 0 by omega] at hs'
      simp at hs'
      subst hs'
      have hx : xs[i]? = some (xs[i]'(by omega)) := List.getElem?_eq_getElem _
      have := (h6 i _ r _ (List.getElem?_eq_getElem (by omega)) hr hx).2.2.1
      show r.2 ≤ lo
      omega

/-- What filling the next element leaves. -/
theorem OS.fill {g : Nat} {k : η} {x : α} (OK : K.Ok) (h : OS K w B C (some ⟨g, 0, none⟩) c n xs) (hx : xs.length < n) (ho : K.own w C C2 k x) (hBC : B ≤ C) (hC : C ≤ C2) :
    OS K (w.setCells g (xs.length * K.sz) (K.cells k x)) B C2 (some ⟨g, 0, none⟩) c n (xs ++ [x]) := by
  obtain ⟨hs, rg, h1, h2, h3, h4, h5, h6, h7⟩ := h
  have hgg := grownBy_setCells (g := g) (K.cells k x) (xs.length * K.sz) w
  have key : ∀ (vs : List Value) (o : Nat) (w : World) (us : List Value), w.ownsRow B K.e K.sz (.slice (some ⟨g, 0, none⟩) n c) n us → (w.setCells g o vs).ownsRow B K.e K.sz (.slice (some ⟨g, 0, none⟩) n c) n (setL us o vs) := by
    intro vs
    induction vs with
    | nil => intro o w us h; exact h
    | cons v r ih => intro o w us h; exact ih (o + 1) _ _ (h.stored o v).1
  have hk := key (K.cells k x) (xs.length * K.sz) w _ h4
  have hgC := (h5 g rfl).1
  have hke : ∀ lo hi h y, K.own w lo hi h y → (g < lo ∨ hi ≤ g) → K.own (w.setCells g (xs.length * K.sz) (K.cells k x)) lo hi h y := fun lo hi h y hy hb => OK.okept hy (fun b hb1 hb2 hb3 => hgg.block b hb1 (fun e => by injection e with e; omega)) hgg.size
  have hfl := flat_len OK h1
  refine ⟨hs ++ [k], rg ++ [(C, C2)], by simp [h1], by simp [h2], by simp; omega, ?_, fun b hb => ?_, fun i h r y hh hr hy => ?_, fun i j r s hij hr hs' => ?_⟩
  · rw [flat_push h1, List.length_append, List.length_singleton]
    obtain ⟨d, hd⟩ : ∃ d, n - xs.length = d + 1 := ⟨n - xs.length - 1, by omega⟩
    rw [hd, zers_succ] at hk
    rw [show n - (xs.length + 1) = d by omega]
    have e : setL (flat K hs xs ++ (K.cells K.zh K.zx ++ zers K d)) (xs.length * K.sz) (K.cells k x) = flat K hs xs ++ K.cells k x ++ zers K d := by
      apply List.ext_getElem?
      intro t
      rw [setL_get _ _ _ _ (by rw [List.length_append, List.length_append, hfl, OK.len, OK.len]; omega), OK.len]
      by_cases c1 : t < xs.length * K.sz
      · rw [if_neg (by omega), List.getElem?_append_left (by omega), List.append_assoc, List.getElem?_append_left (by omega)]
      · by_cases c2 : t < xs.length * K.sz + K.sz
        · rw [if_pos (by omega), List.append_assoc, List.getElem?_append_right (by omega), hfl, List.getElem?_append_left (by rw [OK.len]; omega)]
        · have e1 : (flat K hs xs ++ (K.cells K.zh K.zx ++ zers K d))[t]? = (zers K d)[t - xs.length * K.sz - K.sz]? := by
            rw [List.getElem?_append_right (by omega), List.getElem?_append_right (by rw [hfl, OK.len]; omega), OK.len, hfl]
          have e2 : (flat K hs xs ++ (K.cells k x ++ zers K d))[t]? = (zers K d)[t - xs.length * K.sz - K.sz]? := by
            rw [List.getElem?_append_right (by omega), List.getElem?_append_right (by rw [hfl, OK.len]; omega), OK.len, hfl]
          rw [if_neg (by omega), List.append_assoc, e1, e2]
    rw [e] at hk
    exact hk
  · have : g = b := by simpa [blockOf] using hb
    subst this
    refine ⟨by omega, fun i r hr => ?_⟩
    by_cases hi' : i < rg.length
    · rw [List.getElem?_append_left hi'] at hr
      exact (h5 g rfl).2 i r hr
    · have hl := (List.getElem?_eq_some_iff.1 hr).1
      simp at hl
      rw [List.getElem?_append_right (by omega), show i - rg.length = 0 by omega] at hr
      simp at hr
      subst hr
      exact .inl hgC
  · by_cases hi' : i < hs.length
    · rw [List.getElem?_append_left hi'] at hh
      rw [List.getElem?_append_left (by omega)] at hr hy
      obtain ⟨q1, q2, q3, q4⟩ := h6 i h r y hh hr hy
      exact ⟨q1, q2, by omega, hke _ _ _ _ q4 ((h5 g rfl).2 i r hr)⟩
    · have hl := (List.getElem?_eq_some_iff.1 hh).1
      simp at hl
      rw [List.getElem?_append_right (by omega), show i - hs.length = 0 by omega] at hh
      rw [List.getElem?_append_right (by omega), show i - rg.length = 0 by omega] at hr
      rw [List.getElem?_append_right (by omega), show i - xs.length = 0 by omega] at hy
      simp at hh hr hy
      subst hh hr hy
      exact ⟨hBC, hC, Nat.le_refl _, hke C C2 _ _ ho (.inl hgC)⟩
  · have hjl := (List.getElem?_eq_some_iff.1 hs').1
    simp at hjl
    have hil : i < rg.length := by omega
    rw [List.getElem?_append_left hil] at hr
    by_cases hj' : j < rg.length
    · rw [List.getElem?_append_left hj'] at hs'
      exact h7 i j r s hij hr hs'
    · rw [List.getElem?_append_right (by omega), show j - rg.length = 0 by omega] at hs'
      simp at hs'
      subst hs'
      have hx : xs[i]? = some (xs[i]'(by omega)) := List.getElem?_eq_getElem _
      have := (h6 i _ r _ (List.getElem?_eq_getElem (by omega)) hr hx).2.2.1
      show r.2 ≤ C
      omega

theorem OS.top {g : Nat} (h : OS K w B B2 (some ⟨g, 0, none⟩) c n xs) : B ≤ g ∧ g < B2 ∧ g < w.heap.size := by
  obtain ⟨hs, rg, h1, h2, h3, h4, h5, h6, h7⟩ := h
  have := ownsRow_blockS h4 g rfl
  exact ⟨this.1, (h5 g rfl).1, this.2⟩
/-- The cells of the next element, as they were made. -/
theorem OS.next {g : Nat} (OK : K.Ok) (h : OS K w B B2 (some ⟨g, 0, none⟩) c n xs) (hx : xs.length < n) : (∀ j, j < K.sz → w.cell? ⟨g, xs.length * K.sz + j, none⟩ = (K.cells K.zh K.zx)[j]?) ∧ ∀ j, w.frozen? ⟨g, j, none⟩ = false := by
  obtain ⟨hs, rg, h1, h2, h3, h4, h5, h6, h7⟩ := h
  refine ⟨fun j hj => ?_, fun j => h4.frozenAt j⟩
  have hfl := flat_len OK h1
  have hm : (xs.length + 1) * K.sz ≤ n * K.sz := Nat.mul_le_mul_right _ hx
  rw [Nat.add_mul, Nat.one_mul] at hm
  obtain ⟨d, hd⟩ : ∃ d, n - xs.length = d + 1 := ⟨n - xs.length - 1, by omega⟩
  rw [h4.cellAt _ (by omega), hd, zers_succ, List.getElem?_append_right (by omega), hfl, Nat.add_sub_cancel_left, List.getElem?_append_left (by rw [OK.len]; exact hj)]

/-- One element: its cells, its range; a change inside of the range; a cell of its own set. -/
theorem OS.elem {i : Nat} (OK : K.Ok) (h : OS K w B B2 a c xs.length xs) (hi : i < xs.length) :
    ∃ g k x lo hi', a = some ⟨g, 0, none⟩ ∧ g < w.heap.size ∧ B ≤ g ∧ g < B2 ∧ Hid (xs[i]? = some x) ∧ (∀ j, j < K.sz → w.cell? ⟨g, i * K.sz + j, none⟩ = (K.cells k x)[j]?) ∧ (∀ j, w.frozen? ⟨g, j, none⟩ = false) ∧
      K.own w lo hi' k x ∧ (g < lo ∨ hi' ≤ g) ∧ B ≤ lo ∧ hi' ≤ B2 ∧
      (∀ w' x', K.own w' lo hi' k x' → K.cells k x' = K.cells k x → Span lo hi' w w' → OS K w' B B2 a c xs.length (xs.set i x')) ∧
      (∀ j u x', j < K.sz → K.cells k x' = (K.cells k x).set j u → (∀ W, K.own W lo hi' k x → K.own W lo hi' k x') → OS K (w.setCell ⟨g, i * K.sz + j, none⟩ u) B B2 a c xs.length (xs.set i x')) := by
  obtain ⟨hs, rg, h1, h2, h3, h4, h5, h6, h7⟩ := h
  have hh : hs[i]? = some (hs[i]'(by omega)) := List.getElem?_eq_getElem _
  have hr : rg[i]? = some (rg[i]'(by omega)) := List.getElem?_eq_getElem _
  have hx : xs[i]? = some (xs[i]'hi) := List.getElem?_eq_getElem _
  generalize hs[i]'(by omega) = k at hh
  generalize rg[i]'(by omega) = r at hr
  generalize xs[i]'hi = x at hx
  obtain ⟨q1, q2, q3, q4⟩ := h6 i k r x hh hr hx
  have hpos : (i + 1) * K.sz ≤ xs.length * K.sz := Nat.mul_le_mul_right _ hi
  rw [Nat.add_mul, Nat.one_mul] at hpos
  have hsz := OK.pos
  rw [Nat.sub_self, show zers K 0 = [] from rfl, List.append_nil] at h4
  obtain ⟨g, rfl⟩ : ∃ g, a = some ⟨g, 0, none⟩ := by
    rcases h4.2 with ⟨hv, hn⟩ | ⟨g, cap, cur, hv, _⟩
    · omega
    · injection hv with hv; exact ⟨g, hv⟩
  have hg := ownsRow_blockS h4 g rfl
  refine ⟨g, k, x, r.1, r.2, rfl, hg.2, hg.1, (h5 g rfl).1, hx, fun j hj => ?_, fun j => h4.frozenAt j, q4, (h5 g rfl).2 i r hr, q1, q3, fun w' x' ho hc hs' => ?_, fun j u x' hj hc hw => ?_⟩
  · rw [h4.cellAt (i * K.sz + j) (by omega), flat_get OK hh hx hj]
  · have hfl : flat K hs (xs.set i x') = flat K hs xs := by
      have := flat_set OK (j := 0) (u := (K.cells k x)[0]'(by rw [OK.len]; exact hsz)) (x' := x') h1 hh hx hsz (by rw [hc, List.set_getElem_self])
      rw [← this]
      have hlt : i * K.sz + 0 < (flat K hs xs).length := by rw [flat_len OK h1]; omega
      have : (flat K hs xs)[i * K.sz + 0]? = some ((K.cells k x)[0]'(by rw [OK.len]; exact hsz)) := by
        rw [flat_get OK hh hx hsz, List.getElem?_eq_getElem]
      rw [List.getElem?_eq_getElem hlt] at this
      injection this with this
      rw [← this, List.set_getElem_self]
    refine ⟨hs, rg, by simp [h1], by simp [h2], by simp, ?_, h5, fun j h s y hh' hr' hy => ?_, h7⟩
    · rw [hfl, List.length_set, Nat.sub_self, show zers K 0 = [] from rfl, List.append_nil]
      exact ownsRow_of_blockS h4 fun b hb => hs'.block b (ownsRow_blockS h4 b hb).2 (by have := (h5 b hb).2 i r hr; omega)
    · by_cases e : j = i
      · subst e
        rw [hh] at hh'
        rw [hr] at hr'
        rw [List.getElem?_set_self hi] at hy
        injection hh' with hh'
        injection hr' with hr'
        injection hy with hy
        subst hh' hr' hy
        exact ⟨q1, q2, q3, ho⟩
      · rw [List.getElem?_set_ne (fun h => e h.symm)] at hy
        obtain ⟨p1, p2, p3, p4⟩ := h6 j h s y hh' hr' hy
        refine ⟨p1, p2, p3, OK.ospan p4 hs' ?_⟩
        rcases Nat.lt_or_gt_of_ne e with hlt | hgt
        · exact .inl (h7 j i s r hlt hr' hr)
        · exact .inr (h7 i j r s hgt hr hr')
  · have st := h4.stored (i * K.sz + j) u
    rw [flat_set OK h1 hh hx hj hc] at st
    have hke : ∀ lo hi h y, K.own w lo hi h y → (g < lo ∨ hi ≤ g) → K.own (w.setCell ⟨g, i * K.sz + j, none⟩ u) lo hi h y := fun lo hi h y hy hb => OK.okept hy (fun b hb1 hb2 hb3 => st.2.block b hb1 (fun e => by injection e with e; omega)) st.2.size
    refine ⟨hs, rg, by simp [h1], by simp [h2], by simp, ?_, h5, fun t h s y hh' hr' hy => ?_, h7⟩
    · rw [List.length_set, Nat.sub_self, show zers K 0 = [] from rfl, List.append_nil]
      exact st.1
    · by_cases e : t = i
      · subst e
        rw [hh] at hh'
        rw [hr] at hr'
        rw [List.getElem?_set_self hi] at hy
        injection hh' with hh'
        injection hr' with hr'
        injection hy with hy
        subst hh' hr' hy
        exact ⟨q1, q2, q3, hw _ (hke _ _ _ _ q4 ((h5 g rfl).2 t r hr))⟩
      · rw [List.getElem?_set_ne (fun h => e h.symm)] at hy
        obtain ⟨p1, p2, p3, p4⟩ := h6 t h s y hh' hr' hy
        exact ⟨p1, p2, p3, hke _ _ _ _ p4 ((h5 g rfl).2 t s hr')⟩
end

end Go.Proofs.Ytkegknophppdgaa
