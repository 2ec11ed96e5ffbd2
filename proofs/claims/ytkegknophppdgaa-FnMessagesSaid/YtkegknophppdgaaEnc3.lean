/- Contracts of EncodeSparse, EncodeCoefficients, EncodedSize. -/
import Derived.Test.YtkegknophppdgaaEnc2
namespace Go.Proofs.Ytkegknophppdgaa
open Go.RowKit
set_option linter.unusedVariables false
set_option maxRecDepth 20000

/-- The pairs of the sparse form: how many zeros stand ahead, and the number; and the zeros since then. -/
def spStep (s : List Int × Nat) (x : Int) : List Int × Nat := if x = 0 then (s.1, s.2 + 1) else (s.1 ++ [(s.2 : Int), x], 0)
def spTo (xs : List Int) (k : Nat) : List Int × Nat := (xs.take k).foldl spStep ([], 0)
def sp (xs : List Int) : List Int := (spTo xs xs.length).1
theorem spTo_zero (xs : List Int) : spTo xs 0 = ([], 0) := rfl
theorem spTo_yes {xs : List Int} {k : Nat} {x : Int} (h : xs[k]? = some x) (h0 : x = 0) : spTo xs (k + 1) = ((spTo xs k).1, (spTo xs k).2 + 1) := by
  unfold spTo
  rw [foldl_take spStep _ h, spStep, if_pos h0]
theorem spTo_no {xs : List Int} {k : Nat} {x : Int} (h : xs[k]? = some x) (h0 : ¬ x = 0) : spTo xs (k + 1) = ((spTo xs k).1 ++ [((spTo xs k).2 : Int), x], 0) := by
  unfold spTo
  rw [foldl_take spStep _ h, spStep, if_neg h0]
theorem spTo_bounds (xs : List Int) (k : Nat) : (spTo xs k).1.length ≤ 2 * k ∧ (spTo xs k).2 ≤ k := by
  induction k with
  | zero => simp [spTo_zero]
  | succ k ih =>
    cases hx : xs[k]? with
    | none =>
      have : xs.length ≤ k := by simpa using hx
      unfold spTo at ih ⊢
      rw [List.take_of_length_le (by omega)] at ih ⊢
      omega
    | some x =>
      by_cases h0 : x = 0
      · rw [spTo_yes hx h0]; simp; omega
      · rw [spTo_no hx h0]; simp; omega
theorem spTo_all {xs : List Int} {k : Nat} (h : xs.length ≤ k) : (spTo xs k).1 = sp xs := by
  unfold sp spTo
  rw [List.take_of_length_le h, List.take_of_length_le (Nat.le_refl _)]

def encSparse (xs : List Int) : List Int := if validV xs then encInts ([1, (xs.length : Int), (cnz xs : Int)] ++ sp xs) else []
theorem encSparse_yes {xs : List Int} (h : validV xs = true) : encSparse xs = encInts ([1, (xs.length : Int), (cnz xs : Int)] ++ sp xs) := by simp [encSparse, h]
theorem encSparse_no {xs : List Int} (h : validV xs = false) : encSparse xs = [] := by simp [encSparse, h]
theorem sp_len (xs : List Int) : (sp xs).length ≤ 2 * xs.length := (spTo_bounds xs xs.length).1
theorem encSparse_len (xs : List Int) : (encSparse xs).length ≤ 581 := by
  cases h : validV xs
  · simp [encSparse_no h]
  · rw [encSparse_yes h]
    have h1 := encInts_len ([1, (xs.length : Int), (cnz xs : Int)] ++ sp xs)
    have h2 := (validV_true.1 h).2
    have h3 := sp_len xs
    simp at h1 ⊢
    omega

set_option maxHeartbeats 1000000 in
theorem implEncodeSparse_ok (a : Option Addr) (c : Nat) (xs : List Int) (w : World) (h : Vals w a (I xs)) (hl : xs.length ≤ 1048576) :
    Calls Try.prog 86 #[.slice a xs.length c] w (NewY w (encSparse xs)) := by
  cases hv : validV xs
  · go_enter Try.func86, Try.ntmps86
    go_wp2_with (go_at_call 120; refine (implIsValidVector_ok _ _ _ _ h (by omega)).mono ?_; rintro e w' ⟨rfl, rfl⟩)
    go_ret
    rw [encSparse_no hv]
    exact ⟨none, 0, rfl, OwnB.nil _ _, Ext.refl _⟩
  · have hx40 := (validV_true.1 hv).2
    have o0 := OwnI.new w w.heap.size [1, (xs.length : Int), (cnz xs : Int)] (Nat.le_refl _) (by simp)
    have e0 := (Ext.refl w).alloc (.cells (I [1, (xs.length : Int), (cnz xs : Int)]).toArray 3)
    go_enter Try.func86, Try.ntmps86
    go_wp2_with (first | (go_at_call 120; refine (implIsValidVector_ok _ _ _ _ h (by omega)).mono ?_; rintro e w' ⟨rfl, rfl⟩) | (go_at_call 91; refine (implCountNonzero_ok _ _ _ _ h (by omega)).mono ?_; rintro e w' ⟨rfl, rfl⟩))
    go_loopw [3, 4, 17] (fun v z i wr => ∃ (k : Nat) (a1 : Option Addr) (c1 : Nat) (ys : List Int), k ≤ xs.length ∧ i = .int .i64 k ∧ z = .int .i64 ((spTo xs k).2 : Nat) ∧ v = .slice a1 ys.length c1 ∧ ys = [1, (xs.length : Int), (cnz xs : Int)] ++ (spTo xs k).1 ∧ OwnI wr w.heap.size a1 c1 ys ∧ Ext w wr) (fun _ _ i _ => xs.length - (intOf i).toNat)
    case atStart => exact ⟨0, _, _, _, Nat.zero_le _, rfl, rfl, rfl, rfl, o0, e0⟩
    case round =>
      clear o0 e0
      obtain ⟨k, a1, c1, ys, hk, rfl, rfl, rfl, hy, ho, he⟩ := hrel
      obtain ⟨hb1, hb2⟩ := spTo_bounds xs k
      have hyl : ys.length ≤ 1000 := by rw [hy]; simp; omega
      have HY := Lib.hid hy
      clear hy
      by_cases hlt : k < xs.length
      · obtain ⟨b, o, x, rfl, hb, hx, hc⟩ := (h.ext he).atI hlt
        by_cases h0 : x = 0
        · have h01 := eq_of h0
          have HS := Lib.hid (spTo_yes hx.out h0)
          clear h0
          go_wp2
          go_roundw
          case rel => exact ⟨k + 1, a1, c1, ys, by omega, by go_num, int_eq (by rw [HS.out]; simp), rfl, by rw [HS.out]; exact HY.out, ho, he⟩
          case measure => simp [intOf]; omega
        · have h01 := not_eq_of h0
          have HS := Lib.hid (spTo_no hx.out h0)
          clear h0
          obtain ⟨zs, hz⟩ : ∃ zs, Hid (zs = ys ++ [((spTo xs k).2 : Int), x]) := ⟨_, rfl⟩
          go_wp2_with (at_builtin; refine wpList_appI _ rfl _ _ rfl w.heap.size _ _ ys rfl (ho.ext ((Ext.refl wr).alloc _)) _ _ [((spTo xs k).2 : Int), x] rfl (Vals.new wr [.int .i64 ((spTo xs k).2 : Int), .int .i64 x] _) zs hz.out (by simp; omega) (by have := he.size_le; simp; omega) ?_)
          intro a3 c3 w3 o3 g3 _
          have e3 := (he.alloc (.cells (I [((spTo xs k).2 : Int), x]).toArray 3)).grown g3 (fun k hk => (ho.block k hk).1)
          clear g3 ho
          go_wp2_with fail
          go_roundw
          case rel => exact ⟨k + 1, a3, c3, zs, by omega, by go_num, int_eq (by rw [HS.out]; rfl), rfl, by rw [HS.out, hz.out, HY.out, List.append_assoc], o3, e3⟩
          case measure => simp [intOf]; omega
      · have E := Lib.hid (spTo_all (xs := xs) (k := k) (by omega))
        go_wp2_with fail
        refine (implEncodeInts_ok _ _ _ _ ho.vals (by omega)).mono ?_
        rintro e w2 ⟨a2, c2, rfl, o2, e2⟩
        go_wp2_with fail
        go_ret
        have hz : encSparse xs = encInts ys := by rw [encSparse_yes hv, HY.out, E.out]
        rw [hz]
        exact ⟨a2, c2, rfl, o2.more he.size_le, he.trans e2⟩

set_option maxHeartbeats 1000000 in
theorem specEncodeSparse_ok (a : Option Addr) (c : Nat) (xs : List Int) (w : World) (h : Vals w a (I xs)) (hl : xs.length ≤ 1048576) :
    Calls Try.prog 144 #[.slice a xs.length c] w (NewY w (encSparse xs)) := by
  cases hv : validV xs
  · have o0 := OwnB.new w w.heap.size [] (Nat.le_refl _) (by simp)
    go_enter Try.func144, Try.ntmps144
    go_wp2_with (go_at_call 66; refine (specIsValidVector_ok _ _ _ _ h (by omega)).mono ?_; rintro e w' ⟨rfl, rfl⟩)
    go_ret
    rw [encSparse_no hv]
    exact ⟨_, _, rfl, o0, (Ext.refl w).alloc _⟩
  · have hx40 := (validV_true.1 hv).2
    have hcn := cnz_le xs
    have e0 := (Ext.refl w).alloc (.cells #[.int .u8 1] 5)
    have hcc := specAppendUvarint_ok _ 1 [1] xs.length _ (Vals.new w [.int .u8 1] 5) (by simp)
    obtain ⟨ys, hy⟩ : ∃ ys, Hid (ys = [1] ++ uv xs.length) := ⟨[1] ++ uv xs.length, Lib.hid rfl⟩
    have hyl : ys.length ≤ 8 := by rw [hy.out, List.length_append]; have := uv_len xs.length; simp; omega
    rw [← hy.out] at hcc
    have HC := Lib.hid hcc
    clear hcc
    go_enter Try.func144, Try.ntmps144
    go_wp2_with (go_at_call 66; refine (specIsValidVector_ok _ _ _ _ h (by omega)).mono ?_; rintro e w' ⟨rfl, rfl⟩)
    refine HC.out.mono ?_
    rintro e w1 ⟨a1, c1, rfl, o1, e1⟩
    clear HC
    have e01 := e0.trans e1
    go_wp2_with (go_at_call 168; refine (specCountNonzero_ok _ _ _ _ (h.ext e01) (by omega)).mono ?_; rintro e w' ⟨rfl, rfl⟩)
    have hcc := specAppendUvarint_ok _ c1 ys (cnz xs) _ o1.vals (by omega)
    obtain ⟨zs, hz⟩ : ∃ zs, Hid (zs = ys ++ uv (cnz xs)) := ⟨_, rfl⟩
    have hzl : zs.length ≤ 15 := by rw [hz.out, List.length_append]; have := uv_len (cnz xs); omega
    rw [← hz.out] at hcc
    refine hcc.mono ?_
    rintro e w2 ⟨a2, c2, rfl, o2, e2⟩
    clear hcc
    have e02 := e01.trans e2
    have o2' := o2.more e01.size_le
    clear o1 o2 e1 e2
    go_wp2_with fail
    go_loopw [3, 4, 5] (fun v z i wr => ∃ (k : Nat) (a1 : Option Addr) (c1 : Nat) (us : List Int), k ≤ xs.length ∧ i = .int .i64 k ∧ z = .int .i64 ((spTo xs k).2 : Nat) ∧ v = .slice a1 us.length c1 ∧ us = zs ++ encInts (spTo xs k).1 ∧ OwnB wr w.heap.size a1 c1 us ∧ Ext w wr) (fun _ _ i _ => xs.length - (intOf i).toNat)
    case atStart => exact ⟨0, _, _, zs, Nat.zero_le _, rfl, rfl, rfl, by simp [spTo_zero, encInts_nil], o2', e02⟩
    case round =>
      clear o2' e02 e01 e0
      obtain ⟨k, a3, c3, us, hk, rfl, rfl, rfl, hu, ho, he⟩ := hrel
      obtain ⟨hb1, hb2⟩ := spTo_bounds xs k
      have hel := encInts_len (spTo xs k).1
      have hul : us.length ≤ 10000 := by rw [hu, List.length_append]; omega
      have HU := Lib.hid hu
      clear hu
      by_cases hlt : k < xs.length
      · obtain ⟨b, o, x, rfl, hb, hx, hc⟩ := (h.ext he).atI hlt
        by_cases h0 : x = 0
        · have h01 := eq_of h0
          have HS := Lib.hid (spTo_yes hx.out h0)
          clear h0
          go_wp2
          go_roundw
          case rel => exact ⟨k + 1, a3, c3, us, by omega, by go_num, int_eq (by rw [HS.out]; simp), rfl, by rw [HS.out]; exact HU.out, ho, he⟩
          case measure => simp [intOf]; omega
        · have h01 := not_eq_of h0
          have HS := Lib.hid (spTo_no hx.out h0)
          clear h0
          obtain ⟨vs, hvs⟩ : ∃ vs, Hid (vs = us ++ uv ((spTo xs k).2 : Nat)) := ⟨_, rfl⟩
          have hvl : vs.length ≤ 10010 := by rw [hvs.out, List.length_append]; have := uv_len ((spTo xs k).2 : Nat); omega
          obtain ⟨ts, hts⟩ : ∃ ts, Hid (ts = vs ++ uv x) := ⟨_, rfl⟩
          have C1 : Hid (∀ W : World, Vals W a3 (Y us) → Calls Try.prog 147 #[.slice a3 us.length c3, .int .i64 ((spTo xs k).2 : Nat)] W (NewY W vs)) := fun W hW => by rw [hvs.out]; exact specAppendUvarint_ok a3 c3 us _ W hW (by omega)
          have C2 : Hid (∀ (W : World) (a : Option Addr) (c : Nat), Vals W a (Y vs) → Calls Try.prog 147 #[.slice a vs.length c, .int .i64 x] W (NewY W ts)) := fun W a c hW => by rw [hts.out]; exact specAppendUvarint_ok a c vs _ W hW (by omega)
          have i1 : (0 : Int) ≤ (k : Int) := by omega
          have i2 : (k : Int) < (xs.length : Int) := by omega
          go_wp2_with fail
          go_region_held3 (fun w' => w'.cell? ⟨b, o + k, none⟩ = some (.int .i64 x)) (first | go_keep | exact (e5.cell (e4.cell hc)) | exact (e4.cell hc))
            (first | (go_at_call 147; (with_reducible refine (C1.out _ (ho.vals.ext (Ext.refl wr).drew)).mono ?_); rintro e w4 ⟨a4, c4, rfl, o4, e4⟩) | (go_at_call 147; (with_reducible refine (C2.out _ _ _ o4.vals).mono ?_); rintro e w5 ⟨a5, c5, rfl, o5, e5⟩))
          have e3 := (he.drew.trans e4).trans e5
          have o5' := o5.more (he.drew.trans e4).size_le
          clear o4 o5 e4 e5 ho C1 C2
          go_wp2_with fail
          go_roundw
          case rel => exact ⟨k + 1, a5, c5, ts, by omega, by go_num, int_eq (by rw [HS.out]; rfl), rfl, by rw [HS.out, hts.out, hvs.out, HU.out, encInts_append, encInts_cons, encInts_cons, encInts_nil]; simp, o5', e3⟩
          case measure => simp [intOf]; omega
      · have E := Lib.hid (spTo_all (xs := xs) (k := k) (by omega))
        go_wp2_with fail
        go_ret
        have hzz : encSparse xs = us := by rw [encSparse_yes hv, HU.out, E.out, encInts_append, encInts_cons, encInts_cons, encInts_cons, encInts_nil, uv_one, hz.out, hy.out]; simp
        rw [hzz]
        exact ⟨a3, c3, rfl, ho, he⟩

def encCoef (xs : List Int) : List Int := if (encSparse xs).length < (encDense xs).length then encSparse xs else encDense xs
theorem encCoef_len (xs : List Int) : (encCoef xs).length ≤ 581 := by
  have h1 := encSparse_len xs
  have h2 := encDense_len xs
  unfold encCoef
  split <;> omega

set_option maxHeartbeats 400000 in
theorem implEncodeCoefficients_ok (a : Option Addr) (c : Nat) (xs : List Int) (w : World) (h : Vals w a (I xs)) (hl : xs.length ≤ 1048576) :
    Calls Try.prog 87 #[.slice a xs.length c] w (NewY w (encCoef xs)) := by
  have l1 := encSparse_len xs
  have l2 := encDense_len xs
  by_cases hlt : (encSparse xs).length < (encDense xs).length
  · have E : Hid (encCoef xs = encSparse xs) := by unfold encCoef; rw [Hid, if_pos hlt]
    rw [E.out]
    go_enter Try.func87, Try.ntmps87
    go_wp2_with fail
    refine (implEncodeDense_ok _ _ _ _ h hl).mono ?_
    rintro e w1 ⟨a1, c1, rfl, o1, e1⟩
    go_wp2_with fail
    refine (implEncodeSparse_ok _ _ _ _ (h.ext e1) hl).mono ?_
    rintro e w2 ⟨a2, c2, rfl, o2, e2⟩
    go_wp2_with fail
    go_ret
    exact ⟨a2, c2, rfl, o2.more e1.size_le, e1.trans e2⟩
  · have E : Hid (encCoef xs = encDense xs) := by unfold encCoef; rw [Hid, if_neg hlt]
    rw [E.out]
    go_enter Try.func87, Try.ntmps87
    go_wp2_with fail
    refine (implEncodeDense_ok _ _ _ _ h hl).mono ?_
    rintro e w1 ⟨a1, c1, rfl, o1, e1⟩
    go_wp2_with fail
    refine (implEncodeSparse_ok _ _ _ _ (h.ext e1) hl).mono ?_
    rintro e w2 ⟨a2, c2, rfl, o2, e2⟩
    go_wp2_with fail
    go_ret
    exact ⟨a1, c1, rfl, o1.ext e2, e1.trans e2⟩

theorem implEncodedSize_ok (a : Option Addr) (c : Nat) (xs : List Int) (w : World) (h : Vals w a (I xs)) (hl : xs.length ≤ 1048576) :
    Calls Try.prog 88 #[.slice a xs.length c] w (Gives w (.int .i64 ((encCoef xs).length : Nat))) := by
  go_enter Try.func88, Try.ntmps88
  go_wp2_with fail
  refine (implEncodeCoefficients_ok _ _ _ _ h hl).mono ?_
  rintro e w1 ⟨a1, c1, rfl, o1, e1⟩
  go_wp2_with fail
  go_ret
  exact ⟨rfl, e1⟩

end Go.Proofs.Ytkegknophppdgaa
