/- Words and contracts for slices of bytes: turned out of those for slices of integers. -/
import Derived.Test.YtkegknophppdgaaMats
namespace Go.Proofs.Ytkegknophppdgaa
open Go.RowKit
set_option linter.unusedVariables false
set_option maxRecDepth 20000

/-- Bytes. -/
abbrev Y (xs : List Int) : List Value := xs.map (Value.int .u8)

theorem Vals.atY {w : World} {a : Option Addr} {xs : List Int} (h : Vals w a (Y xs)) {k : Nat} (hk : k < xs.length) :
    ∃ b o x, a = some ⟨b, o, none⟩ ∧ b < w.heap.size ∧ Hid (xs[k]? = some x) ∧ w.cell? ⟨b, o + k, none⟩ = some (.int .u8 x) := by
  obtain ⟨b, o, ha, hc⟩ := h k (by simpa using hk)
  exact ⟨b, o, xs[k], ha, World.block_lt_of_cell? w _ hc, List.getElem?_eq_getElem hk, by simpa using hc⟩

/-- The slice value '.slice a xs.length c' owns the integers xs, in a block from B on. -/
def OwnB (w : World) (B : Nat) (a : Option Addr) (c : Nat) (xs : List Int) : Prop := w.ownsRow B 5 1 (.slice a xs.length c) xs.length (Y xs)

/-- A call hands back a new slice of the integers xs. -/
def NewY (w : World) (xs : List Int) (e : Ending) (w' : World) : Prop := ∃ a c, e = .returned (.slice a xs.length c) ∧ OwnB w' w.heap.size a c xs ∧ Ext w w'

theorem OwnB.vals {w : World} {B : Nat} {a : Option Addr} {c : Nat} {xs : List Int} (h : OwnB w B a c xs) : Vals w a (Y xs) := Vals.of_own h
theorem OwnB.ext {w w' : World} {B : Nat} {a : Option Addr} {c : Nat} {xs : List Int} (h : OwnB w B a c xs) (he : Ext w w') : OwnB w' B a c xs := by
  refine ⟨h.1, ?_⟩
  rcases h.2 with hn | ⟨g, cap, cur, hv, hb, hg, r⟩
  · exact .inl hn
  · exact .inr ⟨g, cap, cur, hv, hb, (he.block_eq (Array.getElem?_eq_some_iff.1 hg).1).trans hg, r⟩

/-- append(xs, news...) for integers: the new list under a name ys, so that its length is not written out. -/
theorem wpList_appY {ops : Array Oper} {rest : List Oper} {o : Oper} {a : Act} {Q : Exit → Act → World → Prop} (w : World) (hgd : o.guard = none) (s x : Operand)
    (ho : o.op = .call { callee := .builtin .append, args := #[s, x], argTypes := #[22, 22] })
    (B : Nat) (a0 : Option Addr) (c : Nat) (xs : List Int) (hs : a.eval s = .slice a0 xs.length c) (hown : OwnB w B a0 c xs)
    (A : Option Addr) (d : Nat) (news : List Int) (hx : a.eval x = .slice A news.length d) (hv : Vals w A (Y news))
    (ys : List Int) (hy : ys = xs ++ news) (h63 : xs.length + news.length ≤ 1099511627776) (hbase : B ≤ w.heap.size)
    (h : ∀ a' c' w', OwnB w' B a' c' ys → w.grownBy w' (blockOf a0) → (blockOf a' = blockOf a0 ∨ blockOf a' = some w.heap.size) → wpList Try.prog ops Q rest (a.put o.dst (.slice a' ys.length c')) w') :
    wpList Try.prog ops Q (o :: rest) a w := by
  obtain ⟨i, hi, hz0, hz1, hz2⟩ := info_parts infoByte
  refine wpList_app w hgd s x 22 ho B 5 i (.int .u8 0) 1 Try.underlying22 hi hz0 hz1 hz2 rfl a0 xs.length c (Y xs) hs hown A news.length d (Y news) hx (by simp) hv (ints_oneCell _ _) h63 (by omega) hbase ?_
  intro a' c' w' h1 h2 h3
  rw [← List.length_append] at h1 ⊢
  rw [← List.map_append] at h1
  subst hy
  exact h a' c' w' h1 h2 h3

/-- The same at a step of a region that draws its order. -/
theorem step_appY {ops : Array Oper} {o : Oper} {a : Act} {K : Act → World → Prop} {Q : Exit → Act → World → Prop} {E : Prop} (w : World) (hgd : o.guard = none) (s x : Operand)
    (ho : o.op = .call { callee := .builtin .append, args := #[s, x], argTypes := #[22, 22] })
    (B : Nat) (a0 : Option Addr) (c : Nat) (xs : List Int) (hs : a.eval s = .slice a0 xs.length c) (hown : OwnB w B a0 c xs)
    (A : Option Addr) (d : Nat) (news : List Int) (hx : a.eval x = .slice A news.length d) (hv : Vals w A (Y news))
    (ys : List Int) (hy : ys = xs ++ news) (h63 : xs.length + news.length ≤ 1099511627776) (hbase : B ≤ w.heap.size)
    (h : ∀ a' c' w', OwnB w' B a' c' ys → w.grownBy w' (blockOf a0) → (blockOf a' = blockOf a0 ∨ blockOf a' = some w.heap.size) → K (a.put o.dst (.slice a' ys.length c')) w') :
    if Region.wanted o (yielded ops a.tmps) = true then Oper.wp Try.prog o a w K Q else E := by
  have hw : Region.wanted o (yielded ops a.tmps) = true := by simp [Region.wanted, hgd]
  rw [if_pos hw]
  obtain ⟨i, hi, hz0, hz1, hz2⟩ := info_parts infoByte
  obtain ⟨a', c', w', hr, h2, h3, h4⟩ := run_app (P := Try.prog) w B 22 o.type 5 i (.int .u8 0) 1 Try.underlying22 hi hz0 hz1 hz2 rfl a0 xs.length c (Y xs) hown A news.length d (Y news) (by simp) hv (ints_oneCell _ _) h63 (by omega) hbase
  unfold Oper.wp execOp
  simp only [ho, resolve, invoke, builtin, Sem.run_bind, Sem.run_pure, Result.andThen_ok, List.map_toArray, List.map_cons, List.map_nil, hs, hx, hr]
  rw [← List.length_append] at h2 ⊢
  rw [← List.map_append] at h2
  subst hy
  exact h a' c' w' h2 h3 h4

theorem OwnB.nil (w : World) (B : Nat) : OwnB w B none 0 [] := World.ownsRow_nil _ _ _ _

theorem OwnB.new (w : World) (B : Nat) (xs : List Int) (hB : B ≤ w.heap.size) (hl : xs.length ≤ 1099511627776) :
    OwnB (w.alloc (.cells (Y xs).toArray 5)) B (some ⟨w.heap.size, 0, none⟩) xs.length xs := by
  have := World.ownsRow_lit (e := 5) (size := 1) (base := B) w (Y xs).toArray xs.length hB (by unfold maxLen; omega) (by simp)
  simpa [OwnB] using this

theorem OwnB.kept {w w' : World} {B : Nat} {a : Option Addr} {c : Nat} {xs : List Int} {row : Option Nat} (h : OwnB w B a c xs) (hg : w.grownBy w' row) (hne : blockOf a = none ∨ blockOf a ≠ row) : OwnB w' B a c xs :=
  World.ownsRow.kept h hg (by rw [ownBlock_slice]; exact hne)

theorem OwnB.setCell {w : World} {B : Nat} {a : Option Addr} {c : Nat} {xs : List Int} (h : OwnB w B a c xs) {p : Addr} (hp : p.block < B) (u : Value) : OwnB (w.setCell p u) B a c xs :=
  ownsRow_setCell_below h hp u

/-- The block of an owned slice lies from B on. -/
theorem OwnB.block {w : World} {B : Nat} {a : Option Addr} {c : Nat} {xs : List Int} (h : OwnB w B a c xs) : ∀ k, blockOf a = some k → B ≤ k ∧ k < w.heap.size := fun k hk =>
  World.ownsRow.lt h k (by rw [ownBlock_slice]; exact hk)

theorem OwnB.more {w : World} {B B' : Nat} {a : Option Addr} {c : Nat} {xs : List Int} (h : OwnB w B a c xs) (hB : B' ≤ B) : OwnB w B' a c xs := by
  refine ⟨h.1, ?_⟩
  rcases h.2 with hn | ⟨g, cap, cur, hv, hb, r⟩
  · exact .inl hn
  · exact .inr ⟨g, cap, cur, hv, Nat.le_trans hB hb, r⟩

/-- A slice of integers that lies in the range. -/
def OB (w : World) (B B2 : Nat) (a : Option Addr) (c : Nat) (xs : List Int) : Prop := OwnB w B a c xs ∧ ∀ k, blockOf a = some k → k < B2

theorem OB.of {w : World} {B : Nat} {a : Option Addr} {c : Nat} {xs : List Int} (h : OwnB w B a c xs) : OB w B w.heap.size a c xs := ⟨h, fun k hk => (h.block k hk).2⟩
theorem OB.vals {w : World} {B B2 : Nat} {a : Option Addr} {c : Nat} {xs : List Int} (h : OB w B B2 a c xs) : Vals w a (Y xs) := h.1.vals
theorem OB.ext {w w' : World} {B B2 : Nat} {a : Option Addr} {c : Nat} {xs : List Int} (h : OB w B B2 a c xs) (he : Ext w w') : OB w' B B2 a c xs := ⟨h.1.ext he, h.2⟩
theorem OwnB.of_block {w w' : World} {B : Nat} {a : Option Addr} {c : Nat} {xs : List Int} (h : OwnB w B a c xs) (hb : ∀ k, blockOf a = some k → w'.heap[k]? = w.heap[k]?) : OwnB w' B a c xs := by
  refine ⟨h.1, ?_⟩
  rcases h.2 with hn | ⟨g, cap, cur, hv, hB, hg, r⟩
  · exact .inl hn
  · refine .inr ⟨g, cap, cur, hv, hB, ?_, r⟩
    rw [hb g (by injection hv with h1; rw [h1]; rfl)]
    exact hg
theorem OB.span {w w' : World} {B B2 C C2 : Nat} {a : Option Addr} {c : Nat} {xs : List Int} (h : OB w B B2 a c xs) (hs : Span C C2 w w') (hd : B2 ≤ C ∨ C2 ≤ B) : OB w' B B2 a c xs :=
  ⟨h.1.of_block fun k hk => hs.block k (h.1.block k hk).2 (by have := (h.1.block k hk).1; have := h.2 k hk; omega), h.2⟩
theorem OB.mono {w : World} {B B2 C C2 : Nat} {a : Option Addr} {c : Nat} {xs : List Int} (h : OB w B B2 a c xs) (h1 : C ≤ B) (h2 : B2 ≤ C2) : OB w C C2 a c xs :=
  ⟨h.1.more h1, fun k hk => Nat.lt_of_lt_of_le (h.2 k hk) h2⟩
theorem OB.nil (w : World) (B B2 : Nat) : OB w B B2 none 0 [] := ⟨OwnB.nil _ _, fun k hk => by simp [blockOf] at hk⟩

/-- A store into an owned slice of integers. -/
theorem OB.store {w : World} {B B2 g c : Nat} {xs : List Int} (h : OB w B B2 (some ⟨g, 0, none⟩) c xs) (i : Nat) (x : Int) (hi : i < xs.length) :
    OB (w.setCell ⟨g, i, none⟩ (.int .u8 x)) B B2 (some ⟨g, 0, none⟩) c (xs.set i x) ∧ Span B B2 w (w.setCell ⟨g, i, none⟩ (.int .u8 x)) ∧ w.frozen? ⟨g, i, none⟩ = false ∧ ∃ u, w.cell? ⟨g, i, none⟩ = some u := by
  have h1 := World.ownsRow.stored h.1 i (.int .u8 x)
  refine ⟨⟨?_, h.2⟩, ?_, World.ownsRow.frozenAt h.1 i, ?_⟩
  · have := h1.1
    unfold OwnB
    rw [List.length_set]
    rw [← List.map_set] at this
    exact this
  · exact (Span.refl B B2 w).setCell (p := ⟨g, i, none⟩) ⟨(h.1.block g rfl).1, h.2 g rfl⟩ _
  · refine ⟨.int .u8 xs[i], ?_⟩
    rw [World.ownsRow.cellAt h.1 i (by omega)]
    simp [hi]

/-- The address of an owned slice that is not empty. -/
theorem OB.form {w : World} {B B2 c : Nat} {a : Option Addr} {xs : List Int} (h : OB w B B2 a c xs) (hx : 0 < xs.length) : ∃ g, a = some ⟨g, 0, none⟩ ∧ B ≤ g ∧ g < B2 ∧ g < w.heap.size := by
  rcases h.1.2 with ⟨hv, hn⟩ | ⟨g, cap, cur, hv, hB, hg, _⟩
  · omega
  · injection hv with h1
    subst h1
    exact ⟨g, rfl, hB, h.2 g rfl, (Array.getElem?_eq_some_iff.1 hg).1⟩

set_option maxHeartbeats 400000 in
theorem toByteS_ok (a : Option Addr) (c : Nat) (xs : List Int) (w : World) (h : Vals w a (Y xs)) (hl : xs.length ≤ 1048576) :
    Calls Try.prog 16 #[.slice a xs.length c] w (NewY w xs) := by
  obtain ⟨i, hi, hz0, hz1, hz2⟩ := info_parts infoByte
  go_enter Try.func16, Try.ntmps16
  go_wp2_with (at_make; refine wpList_make_full _ rfl _ _ 22 rfl w.heap.size 5 i (.int .u8 0) 1 Try.underlying22 hi hz0 hz1 _ _ _ _ xs.length rfl rfl rfl rfl ?b1 ?b2 (Nat.le_refl _) ?_)
  case b1 => rw [hz2]; omega
  case b2 => unfold maxLen; omega
  intro w1 hown hgrow
  have hown0 : w1.ownsRow w.heap.size 5 1 (.slice (some ⟨w.heap.size, 0, none⟩) xs.length xs.length) xs.length ((xs.take 0).map (Value.int .u8) ++ List.replicate (xs.length - 0) (.int .u8 0)) := by
    simpa [Value.cells, toList_madeCells_one] using hown
  have he := (Ext.refl w).grown hgrow (by simp)
  clear hown hgrow
  go_wp2
  go_loopw [4] (fun i wr => ∃ k : Nat, k ≤ xs.length ∧ i = .int .i64 k ∧ wr.ownsRow w.heap.size 5 1 (.slice (some ⟨w.heap.size, 0, none⟩) xs.length xs.length) xs.length ((xs.take k).map (Value.int .u8) ++ List.replicate (xs.length - k) (.int .u8 0)) ∧ Ext w wr) (fun i _ => xs.length - (intOf i).toNat)
  case atStart => exact ⟨0, Nat.zero_le _, rfl, hown0, he⟩
  case round =>
    clear hown0 he
    obtain ⟨k, hk, rfl, hown, he⟩ := hrel
    by_cases hlt : k < xs.length
    · obtain ⟨b, o, x, rfl, hb, hx, hc⟩ := (h.ext he).atY hlt
      have hco : wr.cell? ⟨w.heap.size, k, none⟩ = some (.int .u8 0) := by
        rw [hown.cellAt k (by omega), fill_get _ hlt]
      have hfo := hown.frozenAt k
      have hst := (hown.stored k (.int .u8 x)).1
      rw [fill_set _ hx.out] at hst
      have he' := he.setCell (p := ⟨w.heap.size, k, none⟩) (Nat.le_refl _) (.int .u8 x)
      clear hown he
      go_wp2
      go_roundw
      case rel => exact ⟨k + 1, by omega, by go_num, hst, he'⟩
      case measure => simp [intOf]; omega
    · have E : Hid (xs.take k = xs) := List.take_of_length_le (by omega)
      rw [E.out, show xs.length - k = 0 by omega, List.replicate_zero, List.append_nil] at hown
      go_wp2
      go_ret
      exact ⟨_, _, rfl, hown, he⟩

set_option maxHeartbeats 400000 in
theorem eqByteS_ok (a b : Option Addr) (c d : Nat) (xs ys : List Int) (w : World) (h : Vals w a (Y xs)) (h' : Vals w b (Y ys)) (hl : xs.length ≤ 1099511627776) :
    Calls Try.prog 19 #[.slice a xs.length c, .slice b ys.length d] w (Quiet w (.bool (decide (xs = ys)))) := by
  by_cases hn : xs.length = ys.length
  · have hnn : ((xs.length : Int) != (ys.length : Int)) = false := by simp [hn]
    have HN := Lib.hid hn
    clear hn
    go_enter Try.func19, Try.ntmps19
    go_wp2
    go_loopw [5] (fun i wr => ∃ k : Nat, k ≤ xs.length ∧ i = .int .i64 k ∧ xs.take k = ys.take k ∧ Dr w wr) (fun i _ => xs.length - (intOf i).toNat)
    case atStart => exact ⟨0, Nat.zero_le _, rfl, rfl, Dr.refl _⟩
    case round =>
      obtain ⟨k, hk, rfl, htk, he⟩ := hrel
      have HT := Lib.hid htk
      clear htk
      by_cases hlt : k < xs.length
      · obtain ⟨b1, o1, x, rfl, hb, hx, hc⟩ := (h.ext he.ext).atY hlt
        have hlt' : k < ys.length := by have := HN.out; omega
        obtain ⟨b2, o2, y, rfl, hb', hy, hc'⟩ := (h'.ext he.ext).atY hlt'
        have i1 : (0 : Int) ≤ (k : Int) := by omega
        have i2 : (k : Int) < (xs.length : Int) := by omega
        have i3 : (k : Int) < (ys.length : Int) := by omega
        go_wp2
        go_quiet (fail)
        go_wp2
        · go_ret
          exact ⟨ret_bool (decide_eq_false (take_ne hx.out hy.out (by simpa using (‹(x != y) = true› : (x != y) = true)))).symm, he.drewN _⟩
        · exact ⟨⟨k + 1, by omega, by go_num, take_eq hx.out hy.out HT.out (by simpa using (‹(x != y) = false› : (x != y) = false)), he.drewN _⟩, by simp [intOf]; omega⟩
      · go_wp2
        go_ret
        refine ⟨ret_bool (decide_eq_true ?_).symm, he⟩
        have := HT.out
        rwa [List.take_of_length_le (by omega), List.take_of_length_le (by have := HN.out; omega)] at this
  · have hnn : ((xs.length : Int) != (ys.length : Int)) = true := by simp; omega
    go_enter Try.func19, Try.ntmps19
    go_wp2
    go_ret
    exact ⟨ret_bool (decide_eq_false (fun e => hn (by rw [e]))).symm, Dr.refl _⟩

set_option maxHeartbeats 400000 in
theorem slicesEqualB_ok (a b : Option Addr) (c d : Nat) (xs ys : List Int) (w : World) (h : Vals w a (Y xs)) (h' : Vals w b (Y ys)) (hl : xs.length ≤ 1099511627776) :
    Calls Try.prog 152 #[.slice a xs.length c, .slice b ys.length d] w (Quiet w (.bool (decide (xs = ys)))) := by
  by_cases hn : xs.length = ys.length
  · have hnn : ((xs.length : Int) != (ys.length : Int)) = false := by simp [hn]
    have HN := Lib.hid hn
    clear hn
    go_enter Try.func152, Try.ntmps152
    go_wp2
    go_loopw [13] (fun i wr => ∃ k : Nat, k ≤ xs.length ∧ i = .int .i64 k ∧ xs.take k = ys.take k ∧ Dr w wr) (fun i _ => xs.length - (intOf i).toNat)
    case atStart => exact ⟨0, Nat.zero_le _, rfl, rfl, Dr.refl _⟩
    case round =>
      obtain ⟨k, hk, rfl, htk, he⟩ := hrel
      have HT := Lib.hid htk
      clear htk
      by_cases hlt : k < xs.length
      · obtain ⟨b1, o1, x, rfl, hb, hx, hc⟩ := (h.ext he.ext).atY hlt
        have hlt' : k < ys.length := by have := HN.out; omega
        obtain ⟨b2, o2, y, rfl, hb', hy, hc'⟩ := (h'.ext he.ext).atY hlt'
        have i1 : (0 : Int) ≤ (k : Int) := by omega
        have i2 : (k : Int) < (xs.length : Int) := by omega
        have i3 : (k : Int) < (ys.length : Int) := by omega
        go_wp2
        go_quiet (fail)
        go_wp2
        · go_ret
          exact ⟨ret_bool (decide_eq_false (take_ne hx.out hy.out (by simpa using (‹(x != y) = true› : (x != y) = true)))).symm, he.drewN _⟩
        · exact ⟨⟨k + 1, by omega, by go_num, take_eq hx.out hy.out HT.out (by simpa using (‹(x != y) = false› : (x != y) = false)), he.drewN _⟩, by simp [intOf]; omega⟩
      · go_wp2
        go_ret
        refine ⟨ret_bool (decide_eq_true ?_).symm, he⟩
        have := HT.out
        rwa [List.take_of_length_le (by omega), List.take_of_length_le (by have := HN.out; omega)] at this
  · have hnn : ((xs.length : Int) != (ys.length : Int)) = true := by simp; omega
    go_enter Try.func152, Try.ntmps152
    go_wp2
    go_ret
    exact ⟨ret_bool (decide_eq_false (fun e => hn (by rw [e]))).symm, Dr.refl _⟩

/-- n bytes, one by one from k on. -/
def upB (k : Int) (n : Nat) : List Int := (List.range n).map fun i => (k + (i : Nat)) % 256
theorem upB_length (k : Int) (n : Nat) : (upB k n).length = n := by simp [upB]
theorem upB_get {k : Int} {n i : Nat} (h : i < n) : (upB k n)[i]? = some ((k + i) % 256) := by simp [upB, h]
theorem upB_succ (k : Int) (n : Nat) : upB k (n + 1) = upB k n ++ [(k + n) % 256] := by simp [upB, List.range_succ]

theorem markB_set {k : Int} {xs : List Int} {i : Nat} (h : i < xs.length) : (upB k i ++ xs.drop i).set i ((k + i) % 256) = upB k (i + 1) ++ xs.drop (i + 1) := by
  rw [List.set_append_right _ _ (by rw [upB_length]; exact Nat.le_refl _), upB_length, Nat.sub_self, List.drop_eq_getElem_cons h, List.set_cons_zero, upB_succ, List.append_assoc]
  rfl

theorem wrapU8 (k : Int) (h : 0 ≤ k) : IntKind.u8.wrap k = k % 256 := by simp [IntKind.wrap, IntKind.signed, IntKind.bits]

set_option maxHeartbeats 400000 in
theorem markByteS_ok (B B2 : Nat) (a : Option Addr) (c : Nat) (xs : List Int) (k : Int) (w : World) (h : OB w B B2 a c xs) (hl : xs.length ≤ 1099511627776) (h0 : 0 ≤ k) (h1 : k ≤ 4398046511104) :
    Calls Try.prog 20 #[.slice a xs.length c, .int .i64 k] w fun e w' => e = .returned (.int .i64 (k + xs.length)) ∧ OB w' B B2 a c (upB k xs.length) ∧ Span B B2 w w' := by
  go_enter Try.func20, Try.ntmps20
  go_wp2
  go_loopw [1, 5] (fun m i wr => ∃ j : Nat, j ≤ xs.length ∧ i = .int .i64 j ∧ m = .int .i64 (k + j) ∧ OB wr B B2 a c (upB k j ++ xs.drop j) ∧ Span B B2 w wr) (fun _ i _ => xs.length - (intOf i).toNat)
  case atStart => exact ⟨0, Nat.zero_le _, rfl, by simp, h, Span.refl _ _ _⟩
  case round =>
    clear h
    obtain ⟨j, hj, rfl, rfl, ho, hs⟩ := hrel
    have hlen : (upB k j ++ xs.drop j).length = xs.length := by simp [upB_length]; omega
    by_cases hlt : j < xs.length
    · obtain ⟨g, rfl, g1, g2, g3⟩ := ho.form (by omega)
      obtain ⟨s1, s2, s3, u, s4⟩ := ho.store j ((k + j) % 256) (by omega)
      rw [markB_set hlt] at s1
      have s5 := hs.trans s2
      clear ho hs s2 hlen
      go_wp2
      go_roundw
      case rel => exact ⟨j + 1, by omega, by go_num, by go_num, s1, s5⟩
      case measure => simp [intOf]; omega
    · obtain rfl : j = xs.length := by omega
      rw [List.drop_length, List.append_nil] at ho
      clear hlen
      go_wp2
      go_ret
      exact ⟨rfl, ho, hs⟩

set_option maxHeartbeats 400000 in
theorem heldByteS_ok (a : Option Addr) (c n : Nat) (k : Int) (w : World) (h : Vals w a (Y (upB k n))) (hl : n ≤ 1099511627776) (h0 : 0 ≤ k) (h1 : k ≤ 4398046511104) :
    Calls Try.prog 49 #[.slice a n c, .int .i64 k] w fun e w' => e = .returned (.int .i64 (k + n)) ∧ w = w' := by
  go_enter Try.func49, Try.ntmps49
  go_wp2
  go_loop [1, 5] (fun m i => ∃ j : Nat, j ≤ n ∧ i = .int .i64 j ∧ m = .int .i64 (k + j)) (fun _ i => n - (intOf i).toNat)
  case atStart => exact ⟨0, Nat.zero_le _, rfl, by simp⟩
  case round =>
    obtain ⟨j, hj, rfl, rfl⟩ := hrel
    by_cases hlt : j < n
    · obtain ⟨b, o, x, rfl, hb, hx, hc⟩ := h.atY (k := j) (by rw [upB_length]; exact hlt)
      have hxe : x = (k + j) % 256 := by
        have := hx.out
        rw [upB_get hlt] at this
        injection this with this
        exact this.symm
      subst hxe
      have hne : ((k + (j : Int)) % 256 != (k + (j : Int)) % 256) = false := by simp
      go_wp2
      go_round
      case rel => exact ⟨j + 1, by omega, by go_num, by go_num⟩
      case measure => simp [intOf]; omega
    · obtain rfl : j = n := by omega
      go_wp2
      go_ret
      exact ⟨rfl, rfl⟩

end Go.Proofs.Ytkegknophppdgaa
