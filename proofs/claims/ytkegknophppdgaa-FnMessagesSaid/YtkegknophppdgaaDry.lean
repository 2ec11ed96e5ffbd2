/- Draws of bytes and of coefficients: contracts of l1Bytes, l1Bent, l12Vector, l12Any, DrawEncodeCoefficients, DrawDecodeCoefficients. -/
import Derived.Test.YtkegknophppdgaaDrw
import Derived.Test.YtkegknophppdgaaEnc3
import Derived.Test.YtkegknophppdgaaSym
namespace Go.Proofs.Ytkegknophppdgaa
open Go.RowKit
set_option linter.unusedVariables false
set_option maxRecDepth 20000

theorem wrapB {x : Int} (h0 : 0 ≤ x) (h1 : x ≤ 255) : IntKind.u8.wrap x = x := by rw [wrapU8 x h0]; omega
theorem wrapB_range (x : Int) : 0 ≤ IntKind.u8.wrap x ∧ IntKind.u8.wrap x ≤ 255 := by
  have : IntKind.u8.wrap x = x % 256 := by simp [IntKind.wrap, IntKind.signed, IntKind.bits]
  omega
theorem AllB.snoc {xs : List Int} {x : Int} (h : AllB xs) (h0 : 0 ≤ x) (h1 : x ≤ 255) : AllB (xs ++ [x]) := fun y hy => by
  rcases List.mem_append.1 hy with hy | hy
  · exact h y hy
  · rw [List.mem_singleton.1 hy]; exact ⟨h0, h1⟩

def DrY (g : Nat) (a : Option Addr) (c : Nat) (bs : List Int) (P : List Int → Prop) (w : World) (e : Ending) (w' : World) : Prop :=
  ∃ a2 c2 xs, e = .returned (.slice a2 xs.length c2) ∧ P xs ∧ OwnB w' w.heap.size a2 c2 xs ∧ Cur w' g a c bs ∧ Span g (g + 1) w w'

set_option maxHeartbeats 2000000 in
theorem l1Bytes_ok (g : Nat) (a : Option Addr) (c : Nat) (bs : List Int) (n : Nat) (w : World) (h : Cur w g a c bs) (hn : n ≤ 100000) :
    Calls Try.prog 132 #[curV g, .int .i64 n] w (DrY g a c bs (fun xs => Hid (xs.length = n) ∧ Hid (AllB xs)) w) := by
  have hg := h.lt
  have o0 := OwnB.new w w.heap.size [] (Nat.le_refl _) (by simp)
  have k0 := h.ext ((Ext.refl w).alloc (.cells #[] 5))
  have s0 := (Span.refl g (g + 1) w).alloc (.cells #[] 5)
  have O0 := Lib.hid o0
  have K0 := Lib.hid k0
  have S0 := Lib.hid s0
  have CE := Lib.hid (l1Byte_ok g a c bs)
  clear h o0 k0 s0
  go_enter Try.func132, Try.ntmps132
  go_wp2_with fail
  go_loopw [5, 6] (fun v i wr => ∃ (k : Nat) (a1 : Option Addr) (c1 : Nat) (us : List Int), k ≤ n ∧ i = .int .i64 k ∧ v = .slice a1 us.length c1 ∧ Hid (us.length = k) ∧ Hid (AllB us) ∧ OwnB wr w.heap.size a1 c1 us ∧ Cur wr g a c bs ∧ Span g (g + 1) w wr) (fun _ i _ => n - (intOf i).toNat)
  case atStart => exact ⟨0, _, _, [], Nat.zero_le _, rfl, rfl, rfl, fun x hx => by simp at hx, O0.out, K0.out, S0.out⟩
  case round =>
    clear O0 K0 S0
    obtain ⟨k, a1, c1, us, hk, rfl, rfl, HL, HA, ho, hc, hs⟩ := hrel
    by_cases hlt : k < n
    · have hul : us.length ≤ 100000 := by rw [HL.out]; omega
      go_wp2_with fail
      (with_reducible refine (CE.out _ hc).mono ?_)
      rintro e w2 ⟨x, rfl, x0, x1, k2, s2⟩
      have o2 := ((OB.of ho).span s2 (.inr hg)).1
      have t2 := hs.trans s2
      have z2 := t2.size
      have hwu := wrapB x0 x1
      obtain ⟨vs, hvs⟩ : ∃ vs, Hid (vs = us ++ [x]) := ⟨_, rfl⟩
      have HL2 : Hid (vs.length = k + 1) := by rw [hvs.out, List.length_append, HL.out]; exact Lib.hid rfl
      have HA2 : Hid (AllB vs) := by rw [hvs.out]; exact HA.out.snoc x0 x1
      clear ho hc hs s2
      go_wp2_with (at_builtin; refine wpList_appY _ rfl _ _ rfl w.heap.size _ _ us rfl (o2.ext ((Ext.refl w2).alloc _)) _ _ [x] rfl (Vals.new w2 [.int .u8 x] _) vs hvs.out (by simp; omega) (by simp; omega) ?_)
      intro a3 c3 w3 o3 g3 _
      have k3 := (k2.ext ((Ext.refl w2).alloc (.cells (Y [x]).toArray 5))).grown g3 (fun k hk => by have := (o2.block k hk).1; omega)
      have t3 := (t2.alloc (.cells (Y [x]).toArray 5)).grownN g3 (fun k hk => (o2.block k hk).1)
      clear g3 o2 k2 t2 hwu
      go_wp2_with fail
      go_roundw
      case rel => exact ⟨k + 1, a3, c3, vs, by omega, by go_num, rfl, HL2, HA2, o3, k3, t3⟩
      case measure => simp [intOf]; omega
    · obtain rfl : k = n := by omega
      go_wp2_with fail
      go_ret
      exact ⟨a1, c1, us, rfl, ⟨HL, HA⟩, ho, hc, hs⟩

set_option maxHeartbeats 2000000 in
theorem l12Vector_ok (g : Nat) (a : Option Addr) (c : Nat) (bs : List Int) (w : World) (h : Cur w g a c bs) :
    Calls Try.prog 143 #[curV g] w (DrI g a c bs (fun xs => Hid (xs.length ≤ 11) ∧ Hid (AllEl xs)) w) := by
  have hg := h.lt
  have CB := Lib.hid (fun W n (hW : Cur W g a c bs) (hn : n ≤ 1000000000) => l1Below_ok g a c bs n W hW hn)
  have CE := Lib.hid (l4Element_ok g a c bs)
  have C1 := Lib.hid (l1Below_ok g a c bs 12 w h (by omega))
  obtain ⟨i, hi, hz0, hz1, hz2⟩ := info_parts infoInt
  clear h
  go_enter Try.func143, Try.ntmps143
  go_wp2_with fail
  (with_reducible refine C1.out.mono ?_)
  rintro e w1 ⟨x, rfl, x0, x1, k1, s1⟩
  obtain ⟨n, rfl⟩ := Int.eq_ofNat_of_zero_le x0
  have hn : n ≤ 11 := by omega
  have z1 := s1.size
  clear C1 x0 x1
  go_wp2_with (at_make; refine wpList_make_full _ rfl _ _ 32 rfl w1.heap.size 3 i (.int .i64 0) 1 Try.underlying32 hi hz0 hz1 _ _ _ _ n rfl rfl rfl rfl ?b1 ?b2 (Nat.le_refl _) ?_)
  case b1 => rw [hz2]; omega
  case b2 => unfold maxLen; omega
  intro w2 hown hgrow
  have o2 : OI w2 w1.heap.size w2.heap.size (some ⟨w1.heap.size, 0, none⟩) n (List.replicate n 0) := by
    refine OI.of ?_
    unfold OwnI
    simpa [Value.cells, toList_madeCells_one] using hown
  have k2 := k1.grown hgrow (by simp)
  have t2 := s1.grownN hgrow (by simp)
  have hg1 : g + 1 ≤ w1.heap.size := k1.lt
  clear hown hgrow k1 s1
  go_wp2_with fail
  (with_reducible refine (CB.out _ _ k2 (by omega)).mono ?_)
  rintro e w3 ⟨y, rfl, y0, y1, k3, s3⟩
  obtain ⟨q, rfl⟩ := Int.eq_ofNat_of_zero_le y0
  have hq : q ≤ 5 := by omega
  have o3 := o2.span s3 (.inr hg1)
  have t3 := t2.trans s3
  clear o2 k2 t2 s3 y0 y1
  go_wp2_with fail
  go_loopw [4] (fun i wr => ∃ (k : Nat) (us : List Int), k ≤ 5 ∧ i = .int .i64 k ∧ Hid (us.length = n) ∧ Hid (AllEl us) ∧ OI wr w1.heap.size w2.heap.size (some ⟨w1.heap.size, 0, none⟩) n us ∧ Cur wr g a c bs ∧ Span g (g + 1) w wr) (fun i _ => (intOf i).toNat)
  case atStart => exact ⟨q, _, hq, rfl, by simp [Hid], fun z hz => by rw [(List.mem_replicate.1 hz).2]; rfl, o3, k3, t3⟩
  case round =>
    clear o3 k3 t3
    obtain ⟨k, us, hk, rfl, HL, HA, ho, hc, hs⟩ := hrel
    by_cases hk0 : k = 0
    · subst hk0
      go_wp2_with fail
      go_ret
      exact ⟨_, _, us, by rw [HL.out]; rfl, ⟨Lib.hid (by have := HL.out; omega), HA⟩, ho.1.more (by omega), hc, hs⟩
    by_cases hn0 : n = 0
    · subst hn0
      have i1 : (0 : Int) < (k : Int) := by omega
      go_wp2_with fail
      go_ret
      exact ⟨_, _, us, by rw [HL.out]; rfl, ⟨Lib.hid (by have := HL.out; omega), HA⟩, ho.1.more (by omega), hc, hs⟩
    obtain ⟨p, rfl⟩ : ∃ p, k = p + 1 := ⟨k - 1, by omega⟩
    have i1 : (0 : Int) < (p : Int) + 1 := by omega
    have i2 : (0 : Int) < (n : Int) := by omega
    have i3 : 0 < n := by omega
    clear hk0 hn0
    go_wp2_with fail
    (with_reducible refine (CB.out _ _ hc (by omega)).mono ?_)
    rintro e w4 ⟨z, rfl, z0, z1', k4, s4⟩
    obtain ⟨t, rfl⟩ := Int.eq_ofNat_of_zero_le z0
    have ht : t < n := by omega
    have o4 := ho.span s4 (.inr hg1)
    have t4 := hs.trans s4
    clear ho hc hs s4 z0 z1'
    go_wp2_with fail
    (with_reducible refine (CE.out _ k4).mono ?_)
    rintro e w5 ⟨y, rfl, hy, k5, s5⟩
    have o5 := o4.span s5 (.inr hg1)
    have t5 := t4.trans s5
    have htl : t < us.length := by rw [HL.out]; omega
    obtain ⟨q1, q2, q3, u, q4⟩ := o5.store t y htl
    have z5 := t5.size
    have k6 : Cur (w5.setCell ⟨w1.heap.size, t, none⟩ (.int .i64 y)) g a c bs := k5.keep fun k hk => q2.block k (by have := k5.lt; omega) (.inl (by omega))
    have t6 : Span g (g + 1) w (w5.setCell ⟨w1.heap.size, t, none⟩ (.int .i64 y)) := ⟨q2.os.trans t5.os, q2.tape.trans t5.tape, q2.output.trans t5.output, Nat.le_trans t5.size q2.size, fun k hk hd => (q2.block k (by omega) (.inl (by omega))).trans (t5.block k hk hd)⟩
    have HL2 : Hid ((us.set t y).length = n) := by rw [List.length_set]; exact HL
    have HA2 : Hid (AllEl (us.set t y)) := fun v hv => by
      rcases List.mem_or_eq_of_mem_set hv with h | h
      · exact HA.out v h
      · rw [h]; exact hy
    have i4 : (t : Int) < (n : Int) := by omega
    clear o4 k4 t4 o5 t5 k5 s5 q2 hy
    go_wp2_with fail
    go_roundw
    case rel => exact ⟨p, us.set t y, by omega, by go_num, HL2, HA2, q1, k6, t6⟩
    case measure => simp [intOf]

set_option maxHeartbeats 2000000 in
theorem l12Any_ok (a : Option Addr) (c : Nat) (bs : List Int) (w : World) (h : Vals w a (Y bs)) (hb : ∀ x ∈ bs, 0 ≤ x ∧ x ≤ 255) (hl : bs.length ≤ 1048576) :
    Calls Try.prog 142 #[.slice a bs.length c] w fun e w' => ∃ a2 c2 xs, e = .returned (.slice a2 xs.length c2) ∧ xs.length ≤ 60 ∧ Vals w' a2 (I xs) ∧ Ext w w' := by
  have C1 := Lib.hid (l1New_ok a c bs w h hb hl)
  have CV := Lib.hid (fun g => l12Vector_ok g a c bs)
  have CB := Lib.hid (fun W n g (hW : Cur W g a c bs) (hn : n ≤ 1000000000) => l1Below_ok g a c bs n W hW hn)
  have CI := Lib.hid (fun g => l1Int_ok g a c bs)
  obtain ⟨i, hi, hz0, hz1, hz2⟩ := info_parts infoInt
  clear h hb
  go_enter Try.func142, Try.ntmps142
  go_wp2_with fail
  (with_reducible refine C1.out.mono ?_)
  rintro e w0 ⟨rfl, k0, e0⟩
  obtain ⟨g, hgg⟩ : ∃ g, w.heap.size = g := ⟨_, rfl⟩
  rw [hgg] at k0 ⊢
  have hg := k0.lt
  go_wp2_with fail
  (with_reducible refine (CV.out _ _ k0).mono ?_)
  rintro e w1 ⟨a2, c2, xs, rfl, ⟨HXL, HXA⟩, o1, k1, s1⟩
  go_wp2_with fail
  (with_reducible refine (CB.out _ _ _ k1 (by omega)).mono ?_)
  rintro e w2 ⟨x, rfl, x0, x1, k2, s2⟩
  have o2 := ((OI.of o1).span s2 (.inr hg)).1
  have t2 := s1.trans s2
  have z2 := t2.size
  have hul : xs.length ≤ 11 := HXL.out
  clear o1 k1 s1 s2 k0 C1
  by_cases e00 : x = 0
  · subst e00
    have LV := Lib.hid (lit_span (w := w2) (g := g) (by omega) [-1, 1019] 3)
    have KL := Lib.hid (k2.ext ((Ext.refl w2).alloc (.cells (I [-1, 1019]).toArray 3)))
    go_wp2_with fail
    refine (CI.out g (some ⟨w2.heap.size, 0, none⟩) 2 [-1, 1019] _ KL.out LV.out (by simp) (by simp)).mono ?_
    rintro e w3 ⟨y, rfl, hy, k3, s3⟩
    have o3 := ((OI.of (o2.ext ((Ext.refl w2).alloc (.cells (I [-1, 1019]).toArray 3)))).span s3 (.inr hg)).1
    have t3 := (t2.alloc (.cells (I [-1, 1019]).toArray 3)).trans s3
    have z3 := t3.size
    obtain ⟨vs, hvs⟩ : ∃ vs, Hid (vs = xs ++ [y]) := ⟨_, rfl⟩
    have HL2 : Hid (vs.length ≤ 60) := by rw [hvs.out, List.length_append]; exact Lib.hid (by simp; omega)
    clear LV KL o2 k2 t2 s3 hy
    go_wp2_with (at_builtin; refine wpList_appI _ rfl _ _ rfl w0.heap.size _ _ xs rfl (o3.ext ((Ext.refl w3).alloc _)) _ _ [y] rfl (Vals.new w3 [.int .i64 y] _) vs hvs.out (by simp; omega) (by simp; omega) ?_)
    intro a4 c4 w4 o4 g4 _
    have t4 := (t3.alloc (.cells (I [y]).toArray 3)).grownN g4 (fun k hk => (o3.block k hk).1)
    have E4 : Ext w w4 := Span.ext e0 t4 (by omega)
    clear g4 o3 k3 t3
    go_wp2_with fail
    go_ret
    exact ⟨a4, c4, vs, rfl, HL2.out, o4.vals, E4⟩
  by_cases e1 : x = 1
  · subst e1
    go_wp2_with fail
    (with_reducible refine (CB.out _ _ _ k2 (by omega)).mono ?_)
    rintro e w3 ⟨y, rfl, y0, y1, k3, s3⟩
    obtain ⟨q, rfl⟩ := Int.eq_ofNat_of_zero_le y0
    have hq : q ≤ 1 := by omega
    have t3 := t2.trans s3
    have z3 := t3.size
    clear o2 k2 t2 s3 y0 y1
    go_wp2_with (at_make; refine wpList_make_full _ rfl _ _ 32 rfl w3.heap.size 3 i (.int .i64 0) 1 Try.underlying32 hi hz0 hz1 _ _ _ _ (40 + q) rfl rfl rfl rfl ?b1 ?b2 (Nat.le_refl _) ?_)
    case b1 => rw [hz2]; omega
    case b2 => unfold maxLen; omega
    intro w4 hown hgrow
    have o4 : OwnI w4 w3.heap.size (some ⟨w3.heap.size, 0, none⟩) (40 + q) (List.replicate (40 + q) 0) := by
      unfold OwnI
      simpa [Value.cells, toList_madeCells_one] using hown
    have t4 := t3.grownN hgrow (by simp)
    have E4 : Ext w w4 := Span.ext e0 t4 (by omega)
    clear hown hgrow k3 t3
    go_wp2_with fail
    go_ret
    exact ⟨some ⟨w3.heap.size, 0, none⟩, 40 + q, List.replicate (40 + q) 0, by simp, by simp; omega, o4.vals, E4⟩
  · have e0' : (x == 0) = false := by simp [e00]
    have e1' : (x == 1) = false := by simp [e1]
    have E4 : Ext w w2 := Span.ext e0 t2 (by omega)
    go_wp2_with fail
    go_ret
    exact ⟨a2, c2, xs, rfl, by omega, o2.vals, E4⟩

theorem drawCoefs_ok (a : Option Addr) (c : Nat) (bs : List Int) (w : World) (h : Vals w a (Y bs)) (hb : ∀ x ∈ bs, 0 ≤ x ∧ x ≤ 255) (hl : bs.length ≤ 1048576) :
    Calls Try.prog 83 #[.slice a bs.length c] w fun e w' => ∃ a2 c2 xs, e = .returned (.slice a2 xs.length c2) ∧ xs.length ≤ 60 ∧ Vals w' a2 (I xs) ∧ Ext w w' := by
  have C1 := Lib.hid (l12Any_ok a c bs w h hb hl)
  clear h hb
  go_enter Try.func83, Try.ntmps83
  go_wp2_with fail
  (with_reducible refine C1.out.mono ?_)
  rintro e w1 ⟨a2, c2, xs, rfl, hx, v1, e1⟩
  go_wp2_with fail
  go_ret
  exact ⟨a2, c2, xs, rfl, hx, v1, e1⟩

end Go.Proofs.Ytkegknophppdgaa
