/- Contracts of AppendBytes, EncodeInts, EncodeDense, EncodeSparse, EncodeCoefficients, EncodedSize. -/
import Derived.Test.YtkegknophppdgaaEnc
import Derived.Deep.RegionHeld3
namespace Go.Proofs.Ytkegknophppdgaa
open Go.RowKit
set_option linter.unusedVariables false
set_option maxRecDepth 20000

/-- The bytes of numbers, one behind the other. -/
def encInts (xs : List Int) : List Int := xs.flatMap uv
theorem encInts_nil : encInts [] = [] := rfl
theorem encInts_cons (x : Int) (xs : List Int) : encInts (x :: xs) = uv x ++ encInts xs := by simp [encInts]
theorem encInts_append (xs ys : List Int) : encInts (xs ++ ys) = encInts xs ++ encInts ys := by simp [encInts]
theorem encInts_snoc {xs : List Int} {k : Nat} {x : Int} (h : xs[k]? = some x) : encInts (xs.take (k + 1)) = encInts (xs.take k) ++ uv x := by
  rw [List.take_add_one, h, encInts_append]
  simp [encInts]
theorem encInts_len (xs : List Int) : (encInts xs).length ≤ 7 * xs.length := by
  induction xs with
  | nil => simp [encInts]
  | cons x r ih => rw [encInts_cons, List.length_append, List.length_cons]; have := uv_len x; omega

set_option maxHeartbeats 400000 in
theorem implEncodeInts_ok (a : Option Addr) (c : Nat) (xs : List Int) (w : World) (h : Vals w a (I xs)) (hl : xs.length ≤ 100000) :
    Calls Try.prog 140 #[.slice a xs.length c] w (NewY w (encInts xs)) := by
  go_enter Try.func140, Try.ntmps140
  go_wp2
  go_loopw [3, 8] (fun v i wr => ∃ (k : Nat) (a1 : Option Addr) (c1 : Nat), k ≤ xs.length ∧ i = .int .i64 k ∧ v = .slice a1 (encInts (xs.take k)).length c1 ∧ OwnB wr w.heap.size a1 c1 (encInts (xs.take k)) ∧ Ext w wr) (fun _ i _ => xs.length - (intOf i).toNat)
  case atStart => exact ⟨0, none, 0, Nat.zero_le _, rfl, rfl, OwnB.nil _ _, Ext.refl _⟩
  case round =>
    obtain ⟨k, a1, c1, hk, rfl, rfl, ho, he⟩ := hrel
    have hel := encInts_len (xs.take k)
    have htl : (xs.take k).length ≤ k := List.length_take_le _ _
    by_cases hlt : k < xs.length
    · obtain ⟨b, o, x, rfl, hb, hx, hc⟩ := (h.ext he).atI hlt
      obtain ⟨ys, hy⟩ : ∃ ys, Hid (ys = encInts (xs.take k) ++ uv x) := ⟨_, rfl⟩
      have hcc := implAppendUvarint_ok a1 c1 (encInts (xs.take k)) x wr ho.vals (by omega)
      rw [← hy.out] at hcc
      have HC := Lib.hid hcc
      clear hcc
      go_wp2_with fail
      refine HC.out.mono ?_
      rintro e w2 ⟨a2, c2, rfl, o2, e2⟩
      have hyk : Hid (ys = encInts (xs.take (k + 1))) := by rw [hy.out]; exact (encInts_snoc hx.out).symm
      rw [hyk.out] at o2 ⊢
      have o3 := o2.more he.size_le
      have e3 := he.trans e2
      clear ho he o2 e2 HC
      go_wp2_with fail
      go_roundw
      case rel => exact ⟨k + 1, a2, c2, by omega, by go_num, rfl, o3, e3⟩
      case measure => simp [intOf]; omega
    · have E : Hid (xs.take k = xs) := List.take_of_length_le (by omega)
      rw [E.out] at ho ⊢
      go_wp2
      go_ret
      exact ⟨a1, c1, rfl, ho, he⟩

set_option maxHeartbeats 400000 in
theorem specEncodeInts_ok (a : Option Addr) (c : Nat) (xs : List Int) (w : World) (h : Vals w a (I xs)) (hl : xs.length ≤ 100000) :
    Calls Try.prog 139 #[.slice a xs.length c] w (NewY w (encInts xs)) := by
  have o0 := OwnB.new w w.heap.size [] (Nat.le_refl _) (by simp)
  have e0 := (Ext.refl w).alloc (.cells (Y []).toArray 5)
  go_enter Try.func139, Try.ntmps139
  go_wp2
  go_loopw [3, 4] (fun v i wr => ∃ (k : Nat) (a1 : Option Addr) (c1 : Nat), k ≤ xs.length ∧ i = .int .i64 k ∧ v = .slice a1 (encInts (xs.take k)).length c1 ∧ OwnB wr w.heap.size a1 c1 (encInts (xs.take k)) ∧ Ext w wr) (fun _ i _ => xs.length - (intOf i).toNat)
  case atStart => exact ⟨0, _, _, Nat.zero_le _, rfl, rfl, o0, e0⟩
  case round =>
    clear o0 e0
    obtain ⟨k, a1, c1, hk, rfl, rfl, ho, he⟩ := hrel
    have hel := encInts_len (xs.take k)
    have htl : (xs.take k).length ≤ k := List.length_take_le _ _
    by_cases hlt : k < xs.length
    · obtain ⟨b, o, x, rfl, hb, hx, hc⟩ := (h.ext he).atI hlt
      obtain ⟨ys, hy⟩ : ∃ ys, Hid (ys = encInts (xs.take k) ++ uv x) := ⟨_, rfl⟩
      have hcc := specAppendUvarint_ok a1 c1 (encInts (xs.take k)) x wr ho.vals (by omega)
      rw [← hy.out] at hcc
      have HC := Lib.hid hcc
      clear hcc
      go_wp2_with fail
      refine HC.out.mono ?_
      rintro e w2 ⟨a2, c2, rfl, o2, e2⟩
      have hyk : Hid (ys = encInts (xs.take (k + 1))) := by rw [hy.out]; exact (encInts_snoc hx.out).symm
      rw [hyk.out] at o2 ⊢
      have o3 := o2.more he.size_le
      have e3 := he.trans e2
      clear ho he o2 e2 HC
      go_wp2_with fail
      go_roundw
      case rel => exact ⟨k + 1, a2, c2, by omega, by go_num, rfl, o3, e3⟩
      case measure => simp [intOf]; omega
    · have E : Hid (xs.take k = xs) := List.take_of_length_le (by omega)
      rw [E.out] at ho ⊢
      go_wp2
      go_ret
      exact ⟨a1, c1, rfl, ho, he⟩

def encBytes (bs ds : List Int) : List Int := bs ++ uv ds.length ++ ds

set_option maxHeartbeats 400000 in
theorem implAppendBytes_ok (a : Option Addr) (c : Nat) (bs : List Int) (b : Option Addr) (d : Nat) (ds : List Int) (w : World) (h : Vals w a (Y bs)) (h' : Vals w b (Y ds)) (hl : bs.length ≤ 1048576) (hl' : ds.length ≤ 1048576) :
    Calls Try.prog 133 #[.slice a bs.length c, .slice b ds.length d] w (NewY w (encBytes bs ds)) := by
  have hcc := implAppendUvarint_ok a c bs ds.length w h hl
  obtain ⟨ys, hy⟩ : ∃ ys, Hid (ys = bs ++ uv ds.length) := ⟨_, rfl⟩
  have hyl : ys.length ≤ 1048600 := by rw [hy.out, List.length_append]; have := uv_len ds.length; omega
  rw [← hy.out] at hcc
  have HC := Lib.hid hcc
  clear hcc
  go_enter Try.func133, Try.ntmps133
  go_wp2_with fail
  refine HC.out.mono ?_
  rintro e w1 ⟨a1, c1, rfl, o1, e1⟩
  obtain ⟨zs, hz⟩ : ∃ zs, Hid (zs = ys ++ ds) := ⟨_, rfl⟩
  go_wp2_with (at_builtin; refine wpList_appY _ rfl _ _ rfl w.heap.size _ _ ys rfl o1 _ _ ds rfl (h'.ext e1) zs hz.out (by omega) e1.size_le ?_)
  intro a2 c2 w2 o2 g2 _
  have e2 := e1.grown g2 (fun k hk => (o1.block k hk).1)
  clear g2 o1 HC
  go_wp2_with fail
  go_ret
  refine ⟨a2, c2, ?_, ?_, e2⟩
  · rw [show encBytes bs ds = zs by rw [hz.out, hy.out]; rfl]
    rfl
  · rw [show encBytes bs ds = zs by rw [hz.out, hy.out]; rfl]; exact o2

def encDense (xs : List Int) : List Int := if validV xs then encInts (0 :: (xs.length : Int) :: xs) else []
theorem encDense_yes {xs : List Int} (h : validV xs = true) : encDense xs = encInts (0 :: (xs.length : Int) :: xs) := by simp [encDense, h]
theorem encDense_no {xs : List Int} (h : validV xs = false) : encDense xs = [] := by simp [encDense, h]
theorem uv_zero : uv 0 = [0] := by decide
theorem uv_one : uv 1 = [1] := by decide
theorem encDense_len (xs : List Int) : (encDense xs).length ≤ 294 := by
  cases h : validV xs
  · simp [encDense_no h]
  · rw [encDense_yes h]
    have := encInts_len (0 :: (xs.length : Int) :: xs)
    have := (validV_true.1 h).2
    simp at *
    omega

/-- Two slices beside each other, as a literal holds them. -/
theorem Mat.lit2 {w : World} {e : TypeId} {a0 a1 : Option Addr} {c0 c1 : Nat} {x0 x1 : List Int} (h0 : Vals w a0 (I x0)) (h1 : Vals w a1 (I x1)) :
    Mat (w.alloc (.cells #[.slice a0 x0.length c0, .slice a1 x1.length c1] e)) (some ⟨w.heap.size, 0, none⟩) [(a0, c0), (a1, c1)] [x0, x1] := by
  have he := (Ext.refl w).alloc (.cells #[.slice a0 x0.length c0, .slice a1 x1.length c1] e)
  refine ⟨rfl, Vals.new w _ e, fun i r xs hr hx => ?_⟩
  match i with
  | 0 => simp at hr hx; subst hr hx; exact h0.ext he
  | 1 => simp at hr hx; subst hr hx; exact h1.ext he
  | i + 2 => simp at hr

set_option maxHeartbeats 400000 in
theorem implEncodeDense_ok (a : Option Addr) (c : Nat) (xs : List Int) (w : World) (h : Vals w a (I xs)) (hl : xs.length ≤ 1048576) :
    Calls Try.prog 85 #[.slice a xs.length c] w (NewY w (encDense xs)) := by
  cases hv : validV xs
  · go_enter Try.func85, Try.ntmps85
    go_wp2_with (go_at_call 120; refine (implIsValidVector_ok _ _ _ _ h (by omega)).mono ?_; rintro e w' ⟨rfl, rfl⟩)
    go_ret
    rw [encDense_no hv]
    exact ⟨none, 0, rfl, OwnB.nil _ _, Ext.refl _⟩
  · have hx40 := (validV_true.1 hv).2
    go_enter Try.func85, Try.ntmps85
    go_wp2_with (go_at_call 120; refine (implIsValidVector_ok _ _ _ _ h (by omega)).mono ?_; rintro e w' ⟨rfl, rfl⟩)
    have hm := Mat.lit2 (w := w.alloc (.cells #[.int .i64 0, .int .i64 (xs.length : Int)] 3)) (e := 32) (a0 := some ⟨w.heap.size, 0, none⟩) (c0 := 2) (c1 := c) (x0 := [0, (xs.length : Int)]) (Vals.new w [.int .i64 0, .int .i64 (xs.length : Int)] 3) (h.ext ((Ext.refl w).alloc _))
    rw [show (w.alloc (.cells #[.int .i64 0, .int .i64 (xs.length : Int)] 3)).heap.size = w.heap.size + 1 by simp] at hm
    have hcc := concatI_ok _ 2 _ [[0, (xs.length : Int)], xs] _ hm (by simp) (by simp; omega)
    have he2 := ((Ext.refl w).alloc (.cells #[.int .i64 0, .int .i64 (xs.length : Int)] 3)).alloc (.cells #[.slice (some ⟨w.heap.size, 0, none⟩) 2 2, .slice a xs.length c] 32)
    obtain ⟨ys, hy⟩ : ∃ ys, Hid (ys = [[0, (xs.length : Int)], xs].flatten) := ⟨_, rfl⟩
    have hyl : ys.length ≤ 100000 := by rw [hy.out]; simp; omega
    rw [← hy.out] at hcc
    refine hcc.mono ?_
    rintro e w1 ⟨a1, c1, rfl, o1, e1⟩
    clear hcc hm
    go_wp2_with fail
    refine (implEncodeInts_ok _ _ _ _ o1.vals hyl).mono ?_
    rintro e w2 ⟨a2, c2, rfl, o2, e2⟩
    go_wp2_with fail
    go_ret
    have hz : encDense xs = encInts ys := by rw [encDense_yes hv, hy.out]; simp
    rw [hz]
    exact ⟨a2, c2, rfl, o2.more (he2.trans e1).size_le, (he2.trans e1).trans e2⟩

set_option maxHeartbeats 400000 in
theorem specEncodeDense_ok (a : Option Addr) (c : Nat) (xs : List Int) (w : World) (h : Vals w a (I xs)) (hl : xs.length ≤ 1048576) :
    Calls Try.prog 145 #[.slice a xs.length c] w (NewY w (encDense xs)) := by
  cases hv : validV xs
  · have o0 := OwnB.new w w.heap.size [] (Nat.le_refl _) (by simp)
    go_enter Try.func145, Try.ntmps145
    go_wp2_with (go_at_call 66; refine (specIsValidVector_ok _ _ _ _ h (by omega)).mono ?_; rintro e w' ⟨rfl, rfl⟩)
    go_ret
    rw [encDense_no hv]
    exact ⟨_, _, rfl, o0, (Ext.refl w).alloc _⟩
  · have hx40 := (validV_true.1 hv).2
    have e0 := (Ext.refl w).alloc (.cells #[.int .u8 0] 5)
    have hcc := specAppendUvarint_ok _ 1 [0] xs.length _ (Vals.new w [.int .u8 0] 5) (by simp)
    obtain ⟨ys, hy⟩ : ∃ ys, Hid (ys = [0] ++ uv xs.length) := ⟨[0] ++ uv xs.length, Lib.hid rfl⟩
    have hyl : ys.length ≤ 8 := by rw [hy.out, List.length_append]; have := uv_len xs.length; simp; omega
    rw [← hy.out] at hcc
    have HC := Lib.hid hcc
    clear hcc
    go_enter Try.func145, Try.ntmps145
    go_wp2_with (go_at_call 66; refine (specIsValidVector_ok _ _ _ _ h (by omega)).mono ?_; rintro e w' ⟨rfl, rfl⟩)
    refine HC.out.mono ?_
    rintro e w1 ⟨a1, c1, rfl, o1, e1⟩
    have e01 := e0.trans e1
    have hel := encInts_len xs
    go_wp2_with fail
    refine (specEncodeInts_ok _ _ _ _ (h.ext e01) (by omega)).mono ?_
    rintro e w2 ⟨a2, c2, rfl, o2, e2⟩
    obtain ⟨zs, hz⟩ : ∃ zs, Hid (zs = ys ++ encInts xs) := ⟨_, rfl⟩
    have o1' := (o1.ext e2).more e0.size_le
    go_wp2_with (at_builtin; refine wpList_appY _ rfl _ _ rfl w.heap.size _ _ ys rfl o1' _ _ _ rfl o2.vals zs hz.out (by omega) (e01.trans e2).size_le ?_)
    intro a3 c3 w3 o3 g3 _
    have e3 := (e01.trans e2).grown g3 (fun k hk => (o1'.block k hk).1)
    clear g3 o1 o1' o2 HC
    go_wp2_with fail
    go_ret
    have hzz : encDense xs = zs := by rw [encDense_yes hv, hz.out, hy.out, encInts_cons, encInts_cons, uv_zero]; simp
    rw [hzz]
    exact ⟨a3, c3, rfl, o3, e3⟩

end Go.Proofs.Ytkegknophppdgaa
