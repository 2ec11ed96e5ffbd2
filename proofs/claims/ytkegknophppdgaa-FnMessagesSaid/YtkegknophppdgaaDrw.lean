/- Draws of the reference: a cursor in memory; contracts of l1New, l1Byte, l1Below, l1Once, l1Int, l4Element, l5Vector, l5Any. What a draw returns is only said to be well formed. -/
import Derived.Test.YtkegknophppdgaaBytes
import Derived.Test.YtkegknophppdgaaComb
import Derived.Deep.QuietTactic
import Derived.BigQuiet
namespace Go.Proofs.Ytkegknophppdgaa
open Go.RowKit
set_option linter.unusedVariables false
set_option maxRecDepth 20000

/-- The cursor of a draw: block g holds the bytes, a place in them, a number. -/
structure Cur (w : World) (g : Nat) (a : Option Addr) (c : Nat) (bs : List Int) : Prop where
  vals : Vals w a (Y bs)
  low : ∀ k, blockOf a = some k → bs = [] ∨ k < g
  cells : ∃ (i : Nat) (h : Int), i ≤ bs.length ∧ w.cell? ⟨g, 0, none⟩ = some (.slice a bs.length c) ∧ w.cell? ⟨g, 1, none⟩ = some (.int .i64 i) ∧ w.cell? ⟨g, 2, none⟩ = some (.int .i64 h)
  free : ∀ j, w.frozen? ⟨g, j, none⟩ = false
  byt : ∀ x ∈ bs, 0 ≤ x ∧ x ≤ 255
  len : bs.length ≤ 1048576
section
variable {w w' : World} {g : Nat} {a : Option Addr} {c : Nat} {bs : List Int}
theorem Cur.lt (h : Cur w g a c bs) : g < w.heap.size := by
  obtain ⟨i, z, _, c0, _⟩ := h.cells
  exact World.block_lt_of_cell? _ _ c0
theorem Cur.keepAt (h : Cur w g a c bs) (hv : Vals w a (Y bs)) (hk : ∀ k, k < g → w'.heap[k]? = w.heap[k]?) : Vals w' a (Y bs) := fun i hi => by
  obtain ⟨b, o, ha, hc⟩ := hv i hi
  rcases h.low b (by rw [ha]; rfl) with e | hb
  · subst e; simp at hi
  · exact ⟨b, o, ha, (World.cell?_of_block (hk b hb)).trans hc⟩
theorem Cur.keep (h : Cur w g a c bs) (hk : ∀ k, k ≤ g → w'.heap[k]? = w.heap[k]?) : Cur w' g a c bs := by
  obtain ⟨i, z, hi, c0, c1, c2⟩ := h.cells
  exact ⟨h.keepAt h.vals (fun k hk' => hk k (by omega)), h.low,
    ⟨i, z, hi, (World.cell?_of_block (hk g (Nat.le_refl _))).trans c0, (World.cell?_of_block (hk g (Nat.le_refl _))).trans c1, (World.cell?_of_block (hk g (Nat.le_refl _))).trans c2⟩,
    fun j => (World.frozen?_of_block (hk g (Nat.le_refl _))).trans (h.free j), h.byt, h.len⟩
theorem Cur.ext (h : Cur w g a c bs) (he : Ext w w') : Cur w' g a c bs := h.keep fun k hk => he.block_eq (by have := h.lt; omega)
theorem Cur.grown {row : Option Nat} (h : Cur w g a c bs) (hg : w.grownBy w' row) (hr : ∀ k, row = some k → g < k) : Cur w' g a c bs :=
  h.keep fun k hk => hg.block k (by have := h.lt; omega) (fun e => by have := hr k e.symm; omega)
theorem Cur.put2 (h : Cur w g a c bs) (z : Int) : Cur (w.setCell ⟨g, 2, none⟩ (.int .i64 z)) g a c bs := by
  obtain ⟨i, z', hi, c0, c1, c2⟩ := h.cells
  have hl := h.lt
  exact ⟨h.keepAt h.vals (fun k hk' => (Span.setCell (Span.refl g (g + 1) w) ⟨Nat.le_refl g, Nat.lt_succ_self g⟩ _).block k (by omega) (.inl hk')), h.low,
    ⟨i, z, hi, (World.cell?_setCell_other _ _ _ _ (by simp)).trans c0, (World.cell?_setCell_other _ _ _ _ (by simp)).trans c1, World.cell?_setCell_same _ _ _ c2⟩, fun j => by simpa using h.free j, h.byt, h.len⟩
theorem Cur.put1 (h : Cur w g a c bs) (k : Nat) (hk : k ≤ bs.length) : Cur (w.setCell ⟨g, 1, none⟩ (.int .i64 k)) g a c bs := by
  obtain ⟨i, z', hi, c0, c1, c2⟩ := h.cells
  have hl := h.lt
  exact ⟨h.keepAt h.vals (fun k hk' => (Span.setCell (Span.refl g (g + 1) w) ⟨Nat.le_refl g, Nat.lt_succ_self g⟩ _).block k (by omega) (.inl hk')), h.low,
    ⟨k, z', hk, (World.cell?_setCell_other _ _ _ _ (by simp)).trans c0, World.cell?_setCell_same _ _ _ c1, (World.cell?_setCell_other _ _ _ _ (by simp)).trans c2⟩, fun j => by simpa using h.free j, h.byt, h.len⟩
theorem Span.alloc {B B2 : Nat} {a w : World} (h : Span B B2 a w) (o : Obj) : Span B B2 a (w.alloc o) := h.trans (Span.of_ext ((Ext.refl _).alloc o))
theorem Span.drewN {B B2 : Nat} {a w : World} (h : Span B B2 a w) (n : Nat) : Span B B2 a (w.drewN n) := h.trans (Span.of_ext ((Ext.refl _).drewN n))
theorem Span.grownN {B B2 : Nat} {a w w' : World} {row : Option Nat} (h : Span B B2 a w) (hg : w.grownBy w' row) (hr : ∀ k, row = some k → a.heap.size ≤ k) : Span B B2 a w' :=
  ⟨hg.os.trans h.os, hg.tape.trans h.tape, hg.output.trans h.output, Nat.le_trans h.size hg.size, fun k hk hd => (hg.block k (Nat.lt_of_lt_of_le hk h.size) (fun e => by have := hr k e.symm; omega)).trans (h.block k hk hd)⟩
theorem Vals.span {C C2 : Nat} {a : Option Addr} {vs : List Value} (h : Vals w a vs) (hs : Span C C2 w w') (hd : ∀ k, blockOf a = some k → k < C ∨ C2 ≤ k) : Vals w' a vs := fun i hi => by
  obtain ⟨b, o, ha, hc⟩ := h i hi
  exact ⟨b, o, ha, hs.cell hc (hd b (by rw [ha]; rfl))⟩
end
theorem and_mask (z : Int) (k : Nat) (hk : k ≤ 40) : 0 ≤ bits BinOp.and IntKind.i64 z ((2 : Int) ^ k - 1) ∧ bits BinOp.and IntKind.i64 z ((2 : Int) ^ k - 1) ≤ (2 : Int) ^ k - 1 := by
  have h1 : (BitVec.ofInt 64 ((2 : Int) ^ k - 1)).toNat = 2 ^ k - 1 := by
    have : (2 : Int) ^ k - 1 = ((2 ^ k - 1 : Nat) : Int) := by
      have : 1 ≤ 2 ^ k := Nat.one_le_two_pow
      rw [Int.ofNat_sub this]
      simp
    rw [this, BitVec.ofInt_natCast, BitVec.toNat_ofNat, Nat.mod_eq_of_lt]
    have : 2 ^ k ≤ 2 ^ 40 := Nat.pow_le_pow_right (by omega) hk
    omega
  have h2 : 2 ^ k ≤ 2 ^ 40 := Nat.pow_le_pow_right (by omega) hk
  have h3 : 1 ≤ 2 ^ k := Nat.one_le_two_pow
  have h4 : (2 : Int) ^ k = ((2 ^ k : Nat) : Int) := by simp
  have e : bits BinOp.and IntKind.i64 z ((2 : Int) ^ k - 1) = IntKind.i64.wrap ((BitVec.ofInt 64 z &&& BitVec.ofInt 64 ((2 : Int) ^ k - 1)).toNat : Int) := rfl
  rw [e, BitVec.toNat_and, h1, Nat.and_two_pow_sub_one_eq_mod, IntKind.wrap_i64, h4]
  have := Nat.mod_lt (BitVec.ofInt 64 z).toNat (show 0 < 2 ^ k by omega)
  omega
theorem and255 (z : Int) : 0 ≤ bits BinOp.and IntKind.i64 z 255 ∧ bits BinOp.and IntKind.i64 z 255 ≤ 255 := and_mask z 8 (by omega)

abbrev curV (g : Nat) : Value := .pointer (some ⟨g, 0, none⟩)

set_option maxHeartbeats 2000000 in
theorem l1Byte_ok (g : Nat) (a : Option Addr) (c : Nat) (bs : List Int) (w : World) (h : Cur w g a c bs) :
    Calls Try.prog 161 #[curV g] w fun e w' => ∃ x : Int, e = .returned (.int .i64 x) ∧ 0 ≤ x ∧ x ≤ 255 ∧ Cur w' g a c bs ∧ Span g (g + 1) w w' := by
  obtain ⟨i, z, hi, c0, c1, c2⟩ := h.cells
  have f1 := h.free 1
  have f2 := h.free 2
  have hl := h.len
  have hg := h.lt
  by_cases hlt : i < bs.length
  · obtain ⟨b, o, x, rfl, hbs, hx, hcx⟩ := h.vals.atY hlt
    have hbg : b < g := by
      rcases h.low b rfl with e | e
      · subst e; simp at hlt
      · exact e
    have n1 : b ≠ g := by omega
    have n2 : g ≠ b := by omega
    obtain ⟨x0, x1⟩ := h.byt x (List.mem_of_getElem? hx.out)
    have i1 : (i : Int) < (bs.length : Int) := by omega
    have HC := Lib.hid h
    clear h hi hlt
    go_enter Try.func161, Try.ntmps161
    go_wp2_with fail
    go_quiet (fail)
    go_wp2_with fail
    go_quiet (fail)
    go_wp2_with fail
    go_quiet (fail)
    go_wp2_with fail
    go_ret
    have hg2 : g ≤ g ∧ g < g + 1 := ⟨Nat.le_refl _, Nat.lt_succ_self _⟩
    refine ⟨_, rfl, (and255 _).1, (and255 _).2, ?_, ?_⟩
    · exact ((HC.out.put2 _).ext ((Ext.refl _).drewN _)).put1 (i + 1) (by omega)
    · exact (((Span.refl g (g + 1) w).setCell (p := ⟨g, 2, none⟩) hg2 _).drewN _).setCell (p := ⟨g, 1, none⟩) hg2 _
  · have i1 : ¬ (i : Int) < (bs.length : Int) := by omega
    have HC := Lib.hid h
    clear h hi hlt
    go_enter Try.func161, Try.ntmps161
    go_wp2_with fail
    go_quiet (fail)
    go_wp2_with fail
    go_quiet (fail)
    go_wp2_with fail
    go_ret
    have hg2 : g ≤ g ∧ g < g + 1 := ⟨Nat.le_refl _, Nat.lt_succ_self _⟩
    refine ⟨_, rfl, (and255 _).1, (and255 _).2, ?_, ?_⟩
    · exact (HC.out.put2 _).ext (((Ext.refl _).drewN _).drewN _)
    · exact ((((Span.refl g (g + 1) w).setCell (p := ⟨g, 2, none⟩) hg2 _).drewN _).drewN _)

set_option maxHeartbeats 1000000 in
theorem l1Below_ok (g : Nat) (a : Option Addr) (c : Nat) (bs : List Int) (n : Int) (w : World) (h : Cur w g a c bs) (hn : n ≤ 1000000000) :
    Calls Try.prog 124 #[curV g, .int .i64 n] w fun e w' => ∃ x : Int, e = .returned (.int .i64 x) ∧ 0 ≤ x ∧ (x < n ∨ x = 0) ∧ Cur w' g a c bs ∧ Span g (g + 1) w w' := by
  by_cases h0 : n ≤ 0
  · go_enter Try.func124, Try.ntmps124
    go_wp2_with fail
    go_ret
    exact ⟨0, rfl, by omega, .inr rfl, h, Span.refl _ _ _⟩
  by_cases h1 : n ≤ 256
  · have C1 := Lib.hid (l1Byte_ok g a c bs w h)
    clear h
    go_enter Try.func124, Try.ntmps124
    go_wp2_with fail
    (with_reducible refine C1.out.mono ?_)
    rintro e w1 ⟨x, rfl, x0, x1, k1, s1⟩
    go_wp2_with fail
    go_ret
    refine ⟨_, rfl, ?_, .inl ?_, k1, s1⟩
    · exact Int.emod_nonneg _ (by omega)
    · exact Int.emod_lt_of_pos _ (by omega)
  · have C1 := Lib.hid (l1Byte_ok g a c bs w h)
    have C2 := Lib.hid (l1Byte_ok g a c bs)
    clear h
    go_enter Try.func124, Try.ntmps124
    go_wp2_with fail
    (with_reducible refine C1.out.mono ?_)
    rintro e w1 ⟨x, rfl, x0, x1, k1, s1⟩
    go_wp2_with fail
    (with_reducible refine (C2.out _ k1).mono ?_)
    rintro e w2 ⟨y, rfl, y0, y1, k2, s2⟩
    go_wp2_with fail
    (with_reducible refine (C2.out _ k2).mono ?_)
    rintro e w3 ⟨z, rfl, z0, z1, k3, s3⟩
    go_wp2_with fail
    go_ret
    refine ⟨_, rfl, ?_, .inl ?_, k3, (s1.trans s2).trans s3⟩
    · exact Int.emod_nonneg _ (by omega)
    · exact Int.emod_lt_of_pos _ (by omega)

theorem l1Once_ok (g : Nat) (a : Option Addr) (c : Nat) (bs : List Int) (n : Int) (w : World) (h : Cur w g a c bs) (hn : n ≤ 1000000000) :
    Calls Try.prog 122 #[curV g, .int .i64 n] w fun e w' => ∃ x : Bool, e = .returned (.bool x) ∧ Cur w' g a c bs ∧ Span g (g + 1) w w' := by
  have C1 := Lib.hid (l1Below_ok g a c bs n w h hn)
  clear h
  go_enter Try.func122, Try.ntmps122
  go_wp2_with fail
  (with_reducible refine C1.out.mono ?_)
  rintro e w1 ⟨x, rfl, x0, x1, k1, s1⟩
  go_wp2_with fail
  go_ret
  exact ⟨_, rfl, k1, s1⟩

theorem l4Element_ok (g : Nat) (a : Option Addr) (c : Nat) (bs : List Int) (w : World) (h : Cur w g a c bs) :
    Calls Try.prog 162 #[curV g] w fun e w' => ∃ x : Int, e = .returned (.int .i64 x) ∧ inR x 0 1018 = true ∧ Cur w' g a c bs ∧ Span g (g + 1) w w' := by
  have C1 := Lib.hid (l1Below_ok g a c bs 1019 w h (by omega))
  clear h
  go_enter Try.func162, Try.ntmps162
  go_wp2_with fail
  (with_reducible refine C1.out.mono ?_)
  rintro e w1 ⟨x, rfl, x0, x1, k1, s1⟩
  go_wp2_with fail
  go_ret
  exact ⟨_, rfl, inR_true.2 (by omega), k1, s1⟩

/-- One of the numbers of a list is drawn; the list is not in the cursor's block. -/
theorem l1Int_ok (g : Nat) (a : Option Addr) (c : Nat) (bs : List Int) (a' : Option Addr) (c' : Nat) (xs : List Int) (w : World) (h : Cur w g a c bs) (h' : ∀ w', Span g (g + 1) w w' → Vals w' a' (I xs)) (h0 : 0 < xs.length) (hl : xs.length ≤ 1000) :
    Calls Try.prog 119 #[curV g, .slice a' xs.length c'] w fun e w' => ∃ x : Int, e = .returned (.int .i64 x) ∧ x ∈ xs ∧ Cur w' g a c bs ∧ Span g (g + 1) w w' := by
  have C1 := Lib.hid (l1Below_ok g a c bs xs.length w h (by omega))
  have HV := Lib.hid h'
  clear h h'
  go_enter Try.func119, Try.ntmps119
  go_wp2_with fail
  (with_reducible refine C1.out.mono ?_)
  rintro e w1 ⟨x, rfl, x0, x1, k1, s1⟩
  obtain ⟨k, rfl⟩ := Int.eq_ofNat_of_zero_le x0
  have hk : k < xs.length := by omega
  obtain ⟨b, o, y, rfl, hb, hy, hc⟩ := (HV.out w1 s1).atI hk
  have i1 : (k : Int) < (xs.length : Int) := by omega
  go_wp2_with fail
  go_ret
  exact ⟨_, rfl, List.mem_of_getElem? hy.out, k1, s1⟩

/-- A new list of numbers, written out, is a list to draw from. -/
theorem lit_span {w : World} {g : Nat} (h : g < w.heap.size) (xs : List Int) (e : TypeId) : ∀ w', Span g (g + 1) (w.alloc (.cells (I xs).toArray e)) w' → Vals w' (some ⟨w.heap.size, 0, none⟩) (I xs) := fun w' hs =>
  (Vals.new w (I xs) e).span hs fun k hk => by simp [blockOf] at hk; omega

def DrI (g : Nat) (a : Option Addr) (c : Nat) (bs : List Int) (P : List Int → Prop) (w : World) (e : Ending) (w' : World) : Prop :=
  ∃ a2 c2 xs, e = .returned (.slice a2 xs.length c2) ∧ P xs ∧ OwnI w' w.heap.size a2 c2 xs ∧ Cur w' g a c bs ∧ Span g (g + 1) w w'

set_option maxHeartbeats 2000000 in
theorem l5Vector_ok (g : Nat) (a : Option Addr) (c : Nat) (bs : List Int) (n : Nat) (w : World) (h : Cur w g a c bs) (hn : n ≤ 100000) :
    Calls Try.prog 125 #[curV g, .int .i64 n] w (DrI g a c bs (fun xs => xs.length = n ∧ AllEl xs) w) := by
  have hg := h.lt
  have o0 := OwnI.new w w.heap.size [] (Nat.le_refl _) (by simp)
  have k0 := h.ext ((Ext.refl w).alloc (.cells #[] 3))
  have s0 := (Span.refl g (g + 1) w).alloc (.cells #[] 3)
  have O0 := Lib.hid o0
  have K0 := Lib.hid k0
  have S0 := Lib.hid s0
  have CO := Lib.hid (fun W hW => l1Once_ok g a c bs 3 W hW (by omega))
  have CE := Lib.hid (l4Element_ok g a c bs)
  clear h o0 k0 s0
  go_enter Try.func125, Try.ntmps125
  go_wp2_with fail
  go_loopw [5, 6] (fun v i wr => ∃ (k : Nat) (a1 : Option Addr) (c1 : Nat) (us : List Int), k ≤ n ∧ i = .int .i64 k ∧ v = .slice a1 us.length c1 ∧ Hid (us.length = k) ∧ Hid (AllEl us) ∧ OwnI wr w.heap.size a1 c1 us ∧ Cur wr g a c bs ∧ Span g (g + 1) w wr) (fun _ i _ => n - (intOf i).toNat)
  case atStart => exact ⟨0, _, _, [], Nat.zero_le _, rfl, rfl, rfl, fun x hx => by simp at hx, O0.out, K0.out, S0.out⟩
  case round =>
    clear O0 K0 S0
    obtain ⟨k, a1, c1, us, hk, rfl, rfl, HL, HA, ho, hc, hs⟩ := hrel
    by_cases hlt : k < n
    · have hul : us.length ≤ 100000 := by rw [HL.out]; omega
      go_wp2_with fail
      (with_reducible refine (CO.out _ hc).mono ?_)
      rintro e w1 ⟨q, rfl, k1, s1⟩
      have o1 := ((OI.of ho).span s1 (.inr hg)).1
      have t1 := hs.trans s1
      clear ho hc hs s1
      cases q
      · go_wp2_with fail
        (with_reducible refine (CE.out _ k1).mono ?_)
        rintro e w2 ⟨x, rfl, hx, k2, s2⟩
        have o2 := ((OI.of o1).span s2 (.inr hg)).1
        have t2 := t1.trans s2
        have z2 := t2.size
        obtain ⟨vs, hvs⟩ : ∃ vs, Hid (vs = us ++ [x]) := ⟨_, rfl⟩
        have HL2 : Hid (vs.length = k + 1) := by rw [hvs.out, List.length_append, HL.out]; exact Lib.hid rfl
        have HA2 : Hid (AllEl vs) := fun y hy => by
          rw [hvs.out] at hy
          rcases List.mem_append.1 hy with hy | hy
          · exact HA.out y hy
          · rw [List.mem_singleton.1 hy]; exact hx
        clear o1 t1 k1 s2
        go_wp2_with (at_builtin; refine wpList_appI _ rfl _ _ rfl w.heap.size _ _ us rfl (o2.ext ((Ext.refl w2).alloc _)) _ _ [x] rfl (Vals.new w2 [.int .i64 x] _) vs hvs.out (by simp; omega) (by simp; omega) ?_)
        intro a3 c3 w3 o3 g3 _
        have k3 := (k2.ext ((Ext.refl w2).alloc (.cells (I [x]).toArray 3))).grown g3 (fun k hk => by have := (o2.block k hk).1; omega)
        have t3 := (t2.alloc (.cells (I [x]).toArray 3)).grownN g3 (fun k hk => (o2.block k hk).1)
        clear g3 o2 k2 t2
        go_wp2_with fail
        go_roundw
        case rel => exact ⟨k + 1, a3, c3, vs, by omega, by go_num, rfl, HL2, HA2, o3, k3, t3⟩
        case measure => simp [intOf]; omega
      · have z1 := t1.size
        obtain ⟨vs, hvs⟩ : ∃ vs, Hid (vs = us ++ [(0 : Int)]) := ⟨_, rfl⟩
        have HL2 : Hid (vs.length = k + 1) := by rw [hvs.out, List.length_append, HL.out]; exact Lib.hid rfl
        have HA2 : Hid (AllEl vs) := fun y hy => by
          rw [hvs.out] at hy
          rcases List.mem_append.1 hy with hy | hy
          · exact HA.out y hy
          · rw [List.mem_singleton.1 hy]; rfl
        go_wp2_with (at_builtin; refine wpList_appI _ rfl _ _ rfl w.heap.size _ _ us rfl (o1.ext ((Ext.refl w1).alloc _)) _ _ [0] rfl (Vals.new w1 [.int .i64 0] _) vs hvs.out (by simp; omega) (by simp; omega) ?_)
        intro a3 c3 w3 o3 g3 _
        have k3 := (k1.ext ((Ext.refl w1).alloc (.cells (I [0]).toArray 3))).grown g3 (fun k hk => by have := (o1.block k hk).1; omega)
        have t3 := (t1.alloc (.cells (I [0]).toArray 3)).grownN g3 (fun k hk => (o1.block k hk).1)
        clear g3 o1 k1 t1
        go_wp2_with fail
        go_roundw
        case rel => exact ⟨k + 1, a3, c3, vs, by omega, by go_num, rfl, HL2, HA2, o3, k3, t3⟩
        case measure => simp [intOf]; omega
    · obtain rfl : k = n := by omega
      go_wp2_with fail
      go_ret
      exact ⟨a1, c1, us, rfl, ⟨HL.out, HA.out⟩, ho, hc, hs⟩

set_option maxHeartbeats 2000000 in
theorem l5Any_ok (g : Nat) (a : Option Addr) (c : Nat) (bs : List Int) (n : Nat) (w : World) (h : Cur w g a c bs) (hn : n ≤ 10000) :
    Calls Try.prog 123 #[curV g, .int .i64 n] w (DrI g a c bs (fun xs => xs.length ≤ n + 41) w) := by
  have hg := h.lt
  have C1 := Lib.hid (l5Vector_ok g a c bs n w h (by omega))
  have CB := Lib.hid (fun W n (hW : Cur W g a c bs) (hn : n ≤ 1000000000) => l1Below_ok g a c bs n W hW hn)
  have CI := Lib.hid (l1Int_ok g a c bs)
  obtain ⟨i, hi, hz0, hz1, hz2⟩ := info_parts infoInt
  clear h
  go_enter Try.func123, Try.ntmps123
  go_wp2_with fail
  (with_reducible refine C1.out.mono ?_)
  rintro e w1 ⟨a2, c2, xs, rfl, ⟨hxl, hxa⟩, o1, k1, s1⟩
  have HXA := Lib.hid hxa
  have HXL := Lib.hid hxl
  clear hxa hxl C1
  go_wp2_with fail
  (with_reducible refine (CB.out _ _ k1 (by omega)).mono ?_)
  rintro e w2 ⟨x, rfl, x0, x1, k2, s2⟩
  have o2 := ((OI.of o1).span s2 (.inr hg)).1
  have t2 := s1.trans s2
  have z2 := t2.size
  have hul : xs.length ≤ 10000 := by rw [HXL.out]; omega
  clear o1 k1 s1 s2
  by_cases e0 : x = 0
  · subst e0
    have LV := Lib.hid (lit_span (w := w2) (g := g) (by omega) [-1, 0, 1019] 3)
    have KL := Lib.hid (k2.ext ((Ext.refl w2).alloc (.cells (I [-1, 0, 1019]).toArray 3)))
    go_wp2_with fail
    refine (CI.out (some ⟨w2.heap.size, 0, none⟩) 3 [-1, 0, 1019] _ KL.out LV.out (by simp) (by simp)).mono ?_
    rintro e w3 ⟨y, rfl, hy, k3, s3⟩
    have o3 := ((OI.of (o2.ext ((Ext.refl w2).alloc (.cells (I [-1, 0, 1019]).toArray 3)))).span s3 (.inr hg)).1
    have t3 := (t2.alloc (.cells (I [-1, 0, 1019]).toArray 3)).trans s3
    have z3 := t3.size
    obtain ⟨vs, hvs⟩ : ∃ vs, Hid (vs = xs ++ [y]) := ⟨_, rfl⟩
    have HL2 : Hid (vs.length ≤ n + 41) := by rw [hvs.out, List.length_append, HXL.out]; exact Lib.hid (by simp)
    clear LV KL o2 k2 t2 s3 hy
    go_wp2_with (at_builtin; refine wpList_appI _ rfl _ _ rfl w.heap.size _ _ xs rfl (o3.ext ((Ext.refl w3).alloc _)) _ _ [y] rfl (Vals.new w3 [.int .i64 y] _) vs hvs.out (by simp; omega) (by simp; omega) ?_)
    intro a4 c4 w4 o4 g4 _
    have k4 := (k3.ext ((Ext.refl w3).alloc (.cells (I [y]).toArray 3))).grown g4 (fun k hk => by have := (o3.block k hk).1; omega)
    have t4 := (t3.alloc (.cells (I [y]).toArray 3)).grownN g4 (fun k hk => (o3.block k hk).1)
    clear g4 o3 k3 t3
    go_wp2_with fail
    go_ret
    exact ⟨a4, c4, vs, rfl, HL2.out, o4, k4, t4⟩
  by_cases e1 : x = 1
  · subst e1
    go_wp2_with fail
    (with_reducible refine (CB.out _ _ k2 (by omega)).mono ?_)
    rintro e w3 ⟨y, rfl, y0, y1, k3, s3⟩
    obtain ⟨q, rfl⟩ := Int.eq_ofNat_of_zero_le y0
    have hq : q ≤ 1 := by omega
    have t3 := t2.trans s3
    have z3 := t3.size
    clear o2 k2 t2 s3 y0 y1
    go_wp2_with (at_make; refine wpList_make_full _ rfl _ _ 32 rfl w3.heap.size 3 i (.int .i64 0) 1 Try.underlying32 hi hz0 hz1 _ _ _ _ (40 + q) rfl rfl rfl rfl ?b1 ?b2 (Nat.le_refl _) ?_)
    case b1 => rw [hz2]; omega
    case b2 => unfold maxLen; omega
    intro w4 hown hgrow
    have o4 : OwnI w4 w3.heap.size (some ⟨w3.heap.size, 0, none⟩) (40 + q) (List.replicate (40 + q) 0) := by
      unfold OwnI
      simpa [Value.cells, toList_madeCells_one] using hown
    have o5 := o4.more (B' := w.heap.size) (by omega)
    have k4 := k3.grown hgrow (by simp)
    have t4 := t3.grownN hgrow (by simp)
    clear hown hgrow k3 t3 o4
    go_wp2_with fail
    go_ret
    exact ⟨_, _, List.replicate (40 + q) 0, by simp, by simp; omega, o5, k4, t4⟩
  · have e0' : (x == 0) = false := by simp [e0]
    have e1' : (x == 1) = false := by simp [e1]
    go_wp2_with fail
    go_ret
    exact ⟨a2, c2, xs, rfl, by have := HXL.out; omega, o2, k2, t2⟩

theorem Cur.new {w : World} {a : Option Addr} {bs : List Int} (h : Vals w a (Y bs)) (hb : ∀ x ∈ bs, 0 ≤ x ∧ x ≤ 255) (hl : bs.length ≤ 1048576) (c : Nat) (y : Int) (e : TypeId) :
    Cur (w.alloc (.cells #[.slice a bs.length c, .int .i64 0, .int .i64 y] e)) w.heap.size a c bs := by
  refine ⟨h.ext ((Ext.refl w).alloc _), fun k hk => ?_, ⟨0, y, Nat.zero_le _, by simp, by simp, by simp⟩, fun j => by simp, hb, hl⟩
  by_cases h0 : bs.length = 0
  · exact .inl (List.eq_nil_of_length_eq_zero h0)
  · obtain ⟨b, o, x, rfl, hbs, hx, hcx⟩ := h.atY (k := 0) (by omega)
    simp [blockOf] at hk
    exact .inr (by omega)

set_option maxHeartbeats 1000000 in
theorem l1New_ok (a : Option Addr) (c : Nat) (bs : List Int) (w : World) (h : Vals w a (Y bs)) (hb : ∀ x ∈ bs, 0 ≤ x ∧ x ≤ 255) (hl : bs.length ≤ 1048576) :
    Calls Try.prog 118 #[.slice a bs.length c] w fun e w' => e = .returned (curV w.heap.size) ∧ Cur w' w.heap.size a c bs ∧ Ext w w' := by
  go_enter Try.func118, Try.ntmps118
  go_wp2_with fail
  go_loop [3, 4] (fun z i => ∃ (k : Nat) (y : Int), k ≤ bs.length ∧ i = .int .i64 k ∧ z = .int .i64 y) (fun _ i => bs.length - (intOf i).toNat)
  case atStart => exact ⟨0, _, Nat.zero_le _, rfl, rfl⟩
  case round =>
    obtain ⟨k, y, hk, rfl, rfl⟩ := hrel
    by_cases hlt : k < bs.length
    · obtain ⟨b, o, x, rfl, hbs, hx, hcx⟩ := h.atY hlt
      by_cases h4 : (k : Int) < 4000
      · go_wp2_with fail
        go_round
        case rel => exact ⟨k + 1, _, by omega, by go_num, rfl⟩
        case measure => simp [intOf]; omega
      · go_wp2_with fail
        go_ret
        exact ⟨rfl, Cur.new h hb hl c y _, (Ext.refl w).alloc _⟩
    · go_wp2_with fail
      go_ret
      exact ⟨rfl, Cur.new h hb hl c y _, (Ext.refl w).alloc _⟩

end Go.Proofs.Ytkegknophppdgaa
