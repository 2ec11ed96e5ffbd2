/- Draws of generations: boxes of two cells; contracts of l10Gen, l10Any. -/
import Derived.Test.YtkegknophppdgaaDrm
import Derived.Test.YtkegknophppdgaaPairs
namespace Go.Proofs.Ytkegknophppdgaa
open Go.RowKit
set_option linter.unusedVariables false
set_option maxRecDepth 20000

/-- Two cells of a block that may be written. -/
def Box2 (w : World) (p : Nat) (u v : Value) : Prop := w.cell? ⟨p, 0, none⟩ = some u ∧ w.cell? ⟨p, 1, none⟩ = some v ∧ ∀ j, w.frozen? ⟨p, j, none⟩ = false
section
variable {w w' : World} {p : Nat} {u v : Value}
theorem Box2.lt (h : Box2 w p u v) : p < w.heap.size := World.block_lt_of_cell? _ _ h.1
theorem Box2.new (w : World) (u v : Value) (e : TypeId) : Box2 (w.alloc (.cells #[u, v] e)) w.heap.size u v := ⟨by simp, by simp, fun j => by simp⟩
theorem Box2.at_ (h : Box2 w p u v) (hb : w'.heap[p]? = w.heap[p]?) : Box2 w' p u v :=
  ⟨(World.cell?_of_block hb).trans h.1, (World.cell?_of_block hb).trans h.2.1, fun j => (World.frozen?_of_block hb).trans (h.2.2 j)⟩
theorem Box2.ext (h : Box2 w p u v) (he : Ext w w') : Box2 w' p u v := h.at_ (he.block_eq h.lt)
theorem Box2.span {C C2 : Nat} (h : Box2 w p u v) (hs : Span C C2 w w') (hd : p < C ∨ C2 ≤ p) : Box2 w' p u v := h.at_ (hs.block p h.lt hd)
theorem Box2.grown {row : Option Nat} (h : Box2 w p u v) (hg : w.grownBy w' row) (hr : row ≠ some p) : Box2 w' p u v := h.at_ (hg.block p h.lt (fun e => hr e.symm))
theorem Box2.put1 (h : Box2 w p u v) (z : Value) : Box2 (w.setCell ⟨p, 1, none⟩ z) p u z :=
  ⟨(World.cell?_setCell_other _ _ _ _ (by simp)).trans h.1, World.cell?_setCell_same _ _ _ h.2.1, fun j => by simpa using h.2.2 j⟩
theorem Box2.put0 (h : Box2 w p u v) (z : Value) : Box2 (w.setCell ⟨p, 0, none⟩ z) p z v :=
  ⟨World.cell?_setCell_same _ _ _ h.1, (World.cell?_setCell_other _ _ _ _ (by simp)).trans h.2.1, fun j => by simpa using h.2.2 j⟩
end
theorem Span.one {w : World} {p j : Nat} (v : Value) : Span p (p + 1) w (w.setCell ⟨p, j, none⟩ v) := (Span.refl p (p + 1) w).setCell (p := ⟨p, j, none⟩) ⟨Nat.le_refl _, Nat.lt_succ_self _⟩ v
theorem Cur.span {w w' : World} {g : Nat} {a : Option Addr} {c : Nat} {bs : List Int} {C C2 : Nat} (h : Cur w g a c bs) (hs : Span C C2 w w') (hd : g < C) : Cur w' g a c bs :=
  h.keep fun k hk => hs.block k (by have := h.lt; omega) (.inl (by omega))
/-- A change of blocks that are newer than a is none for a. -/
theorem Span.newer {B B2 C C2 : Nat} {a w w' : World} (h : Span B B2 a w) (hs : Span C C2 w w') (hC : a.heap.size ≤ C) : Span B B2 a w' :=
  ⟨hs.os.trans h.os, hs.tape.trans h.tape, hs.output.trans h.output, Nat.le_trans h.size hs.size, fun k hk hd => (hs.block k (Nat.lt_of_lt_of_le hk h.size) (.inl (by omega))).trans (h.block k hk hd)⟩

def DrG (g : Nat) (a : Option Addr) (c : Nat) (bs : List Int) (P : Int → List (List Int) → Prop) (w : World) (e : Ending) (w' : World) : Prop :=
  ∃ n a2 c2 xss, e = .returned (bsV n a2 c2 xss) ∧ P n xss ∧ OM w' w.heap.size w'.heap.size a2 c2 xss ∧ Cur w' g a c bs ∧ Span g (g + 1) w w'

set_option maxHeartbeats 8000000 in
set_option maxRecDepth 100000 in
theorem l10Gen_ok (g : Nat) (a : Option Addr) (c : Nat) (bs : List Int) (w : World) (h : Cur w g a c bs) :
    Calls Try.prog 137 #[curV g] w (DrG g a c bs (fun n xss => (0 ≤ n ∧ n ≤ 4) ∧ xss.length ≤ 4 ∧ ∀ xs ∈ xss, xs.length ≤ 3) w) := by
  have hg := h.lt
  have CB := Lib.hid (fun W n (hW : Cur W g a c bs) (hn : n ≤ 1000000000) => l1Below_ok g a c bs n W hW hn)
  have k0 := h.ext ((Ext.refl w).alloc (.cells #[.int .i64 0, .slice none 0 0] 53))
  have s0 := (Span.refl g (g + 1) w).alloc (.cells #[.int .i64 0, .slice none 0 0] 53)
  have b0 := Box2.new w (.int .i64 0) (.slice none 0 0) 53
  clear h
  go_enter Try.func137, Try.ntmps137
  go_wp2_with fail
  (with_reducible refine (CB.out _ _ k0 (by omega)).mono ?_)
  rintro e w1 ⟨x, rfl, x0, x1, k1, s1⟩
  have hx4 : x ≤ 4 := by omega
  have b1 := b0.span s1 (.inr hg)
  have t1 := s0.trans s1
  have k2 := k1.ext ((Ext.refl w1).alloc (.cells #[.int .i64 x, .slice none 0 0] 53))
  have p2 := Box2.new w1 (.int .i64 x) (.slice none 0 0) 53
  have b2 := b1.ext ((Ext.refl w1).alloc (.cells #[.int .i64 x, .slice none 0 0] 53))
  have t2 := t1.alloc (.cells #[.int .i64 x, .slice none 0 0] 53)
  have z1 := s1.size
  simp at z1
  clear k0 s0 b0 k1 s1 b1 t1 x1
  go_wp2_with fail
  (with_reducible refine (CB.out _ _ k2 (by omega)).mono ?_)
  rintro e w2 ⟨y, rfl, y0, y1, k3, s3⟩
  obtain ⟨m, rfl⟩ := Int.eq_ofNat_of_zero_le y0
  have hm : m ≤ 2 := by omega
  have p3 := p2.span s3 (.inr (by omega))
  have b3 := b2.span s3 (.inr hg)
  have t3 := t2.trans s3
  clear k2 p2 b2 t2 s3 y0 y1
  go_wp2_with fail
  (with_reducible refine (CB.out _ _ k3 (by omega)).mono ?_)
  rintro e w3 ⟨y, rfl, y0, y1, k4, s4⟩
  obtain ⟨n, rfl⟩ := Int.eq_ofNat_of_zero_le y0
  have hn : n ≤ 3 := by omega
  have p4 := p3.span s4 (.inr (by omega))
  have b4 := b3.span s4 (.inr hg)
  have t4 := t3.trans s4
  have hlt4 := p4.lt
  clear k3 p3 b3 t3 s4 y0 y1
  obtain ⟨p, hp⟩ : ∃ p, w1.heap.size = p := ⟨_, rfl⟩
  rw [hp] at p4 hlt4 ⊢
  have hpg : w.heap.size < p := by omega
  clear hp z1
  go_wp2_with fail
  go_loopw [5] (fun i wr => ∃ (k : Nat) (a1 : Option Addr) (c1 : Nat) (xss : List (List Int)), k ≤ 1 + n ∧ i = .int .i64 k ∧ Hid (xss.length + k = 1 + n) ∧ Hid (∀ xs ∈ xss, xs.length ≤ 3) ∧ Box2 wr p (.int .i64 x) (.slice a1 xss.length c1) ∧ Box2 wr w.heap.size (.int .i64 0) (.slice none 0 0) ∧ OM wr (p + 1) wr.heap.size a1 c1 xss ∧ Cur wr g a c bs ∧ Span g (g + 1) w wr) (fun i _ => (intOf i).toNat)
  case atStart => exact ⟨1 + n, none, 0, [], Nat.le_refl _, by go_num, by simp [Hid], fun xs hx => by simp at hx, p4, b4, OM.nil _ _ _, k4, t4⟩
  case round =>
    clear p4 b4 k4 t4 hlt4
    obtain ⟨k, a1, c1, xss, hk, rfl, HL, HB, hp, hb, hM, hc, hs⟩ := hrel
    have hxl : xss.length ≤ 4 := by have := HL.out; omega
    by_cases hk0 : k = 0
    · subst hk0
      obtain ⟨hp0, hp1, hp2⟩ := hp
      obtain ⟨hb0, hb1, hb2⟩ := hb
      have hb20 := hb2 0
      have hb21 := hb2 1
      have nb1 : p ≠ w.heap.size := by omega
      have nb2 : w.heap.size ≠ p := by omega
      have S1 : Hid (∀ u v, Span g (g + 1) w ((wr.setCell ⟨w.heap.size, 0, none⟩ u).setCell ⟨w.heap.size, 1, none⟩ v)) := fun u v => (hs.newer (Span.one u) (Nat.le_refl _)).newer (Span.one v) (Nat.le_refl _)
      have K1 : Hid (∀ u v, Cur ((wr.setCell ⟨w.heap.size, 0, none⟩ u).setCell ⟨w.heap.size, 1, none⟩ v) g a c bs) := fun u v => (hc.span (Span.one u) hg).span (Span.one v) hg
      have M1 : Hid (∀ u v, OM ((wr.setCell ⟨w.heap.size, 0, none⟩ u).setCell ⟨w.heap.size, 1, none⟩ v) w.heap.size wr.heap.size a1 c1 xss) := fun u v => ((hM.span (Span.one u) (.inr (by omega))).span (Span.one v) (.inr (by omega))).mono (by omega) (Nat.le_refl _)
      clear hM hc hs hb2
      go_wp2_with fail
      refine bodyPost_ret (v := bsV x a1 c1 xss) (by simp only [results, Try.results137]; go_simp) rfl ?_
      exact ⟨x, a1, c1, xss, rfl, ⟨⟨x0, hx4⟩, hxl, HB.out⟩, (M1.out _ _).mono (Nat.le_refl _) (by simp), K1.out _ _, S1.out _ _⟩
    have hk1 : 0 < k := by omega
    obtain ⟨wq, hwq⟩ : ∃ wq, wq = wr := ⟨_, rfl⟩
    subst hwq
    have i1 : (0 : Int) < (k : Int) := by omega
    have hzr := hs.size
    have hpr := hp.lt
    have o0 := OwnI.new wq wq.heap.size [] (Nat.le_refl _) (by simp)
    have xa := (Ext.refl wq).alloc (.cells (I []).toArray 3)
    have P0 := hp.ext xa
    have B0 := hb.ext xa
    have M0 := hM.ext xa
    have C0 := hc.ext xa
    have S0 := hs.alloc (.cells (I []).toArray 3)
    have Z0 : wq.heap.size ≤ (wq.alloc (.cells (I []).toArray 3)).heap.size := by simp
    clear hk0 hp hb hM hc hs
    go_wp2_with fail
    go_loopw [6, 7] (fun v i wz => ∃ (j : Nat) (a2 : Option Addr) (c2 : Nat) (us : List Int), j ≤ 1 + m ∧ i = .int .i64 j ∧ v = .slice a2 us.length c2 ∧ Hid (us.length = j) ∧ OwnI wz wq.heap.size a2 c2 us ∧ wq.heap.size ≤ wz.heap.size ∧ Box2 wz p (.int .i64 x) (.slice a1 xss.length c1) ∧ Box2 wz w.heap.size (.int .i64 0) (.slice none 0 0) ∧ OM wz (p + 1) wq.heap.size a1 c1 xss ∧ Cur wz g a c bs ∧ Span g (g + 1) w wz) (fun _ i _ => 1 + m - (intOf i).toNat)
    case atStart => exact ⟨0, _, _, [], Nat.zero_le _, rfl, rfl, rfl, o0, Z0, P0, B0, M0, C0, S0⟩
    case round =>
      clear o0 xa P0 B0 M0 C0 S0 Z0
      obtain ⟨j, a2, c2, us, hj, rfl, rfl, HJ, ho, hz, hp, hb, hM, hc, hs⟩ := hrel
      have hul : us.length ≤ 3 := by rw [HJ.out]; omega
      by_cases hlt : j < 1 + m
      · have i2 : (j : Int) < 1 + (m : Int) := by omega
        go_wp2_with fail
        (with_reducible refine (CB.out _ _ hc (by omega)).mono ?_)
        rintro e w5 ⟨y, rfl, y0, y1, k5, s5⟩
        have o5 := ((OI.of ho).span s5 (.inr (by omega))).1
        have p5 := hp.span s5 (.inr (by omega))
        have b5 := hb.span s5 (.inr hg)
        have m5 := hM.span s5 (.inr (by omega))
        have t5 := hs.trans s5
        have z5 : wq.heap.size ≤ w5.heap.size := Nat.le_trans hz s5.size
        obtain ⟨vs, hvs⟩ : ∃ vs, Hid (vs = us ++ [y]) := ⟨_, rfl⟩
        have HJ2 : Hid (vs.length = j + 1) := by rw [hvs.out, List.length_append, HJ.out]; exact Lib.hid rfl
        have x5 := (Ext.refl w5).alloc (.cells (I [y]).toArray 3)
        have p6 := p5.ext x5
        have b6 := b5.ext x5
        have m6 := m5.ext x5
        have k6 := k5.ext x5
        have t6 := t5.alloc (.cells (I [y]).toArray 3)
        clear ho hz hp hb hM hc hs s5 p5 b5 m5 k5 t5
        go_wp2_with (at_builtin; refine wpList_appI _ rfl _ _ rfl wq.heap.size _ _ us rfl (o5.ext x5) _ _ [y] rfl (Vals.new w5 [.int .i64 y] _) vs hvs.out (by simp; omega) (by simp; omega) ?_)
        intro a7 c7 w7 o7 g7 _
        have hob := Lib.hid (fun k hk => (o5.block k hk).1)
        have z7 : wq.heap.size ≤ w7.heap.size := by have := g7.size; simp at this; omega
        have p7 := p6.grown g7 (fun e => by have := hob.out p e; omega)
        have b7 := b6.grown g7 (fun e => by have := hob.out w.heap.size e; omega)
        have m7 := m6.grownBy g7 (fun k hk => .inr (hob.out k hk))
        have k7 := k6.grown g7 (fun k hk => by have := hob.out k hk; omega)
        have t7 := t6.grownN g7 (fun k hk => by have := hob.out k hk; omega)
        clear g7 o5 x5 p6 b6 m6 k6 t6 hob
        go_wp2_with fail
        go_roundw
        case rel => exact ⟨j + 1, a7, c7, vs, by omega, by go_num, rfl, HJ2, o7, z7, p7, b7, m7, k7, t7⟩
        case measure => simp [intOf]; omega
      · obtain rfl : j = 1 + m := by omega
        obtain ⟨yss, hyss⟩ : ∃ yss, Hid (yss = xss ++ [us]) := ⟨_, rfl⟩
        have HL2 : Hid (yss.length + (k - 1) = 1 + n) := by have := HL.out; rw [hyss.out, List.length_append]; exact Lib.hid (by simp; omega)
        have HB2 : Hid (∀ xs ∈ yss, xs.length ≤ 3) := fun ys hy => by
          rw [hyss.out] at hy
          rcases List.mem_append.1 hy with hy | hy
          · exact HB.out ys hy
          · rw [List.mem_singleton.1 hy]; exact hul
        have hplt := hp.lt
        have x5 := (Ext.refl wr).alloc (.cells #[.slice a2 us.length c2] 32)
        have p6 := hp.ext x5
        have b6 := hb.ext x5
        have m6 := hM.ext x5
        have k6 := hc.ext x5
        have t6 := hs.alloc (.cells #[.slice a2 us.length c2] 32)
        have r6 := ((OI.of ho).ext x5).mono (C := wq.heap.size) (C2 := (wr.alloc (.cells #[.slice a2 us.length c2] 32)).heap.size) (Nat.le_refl _) (by simp)
        have hnew : Vals (wr.alloc (.cells #[.slice a2 us.length c2] 32)) (some ⟨wr.heap.size, 0, none⟩) [.slice a2 us.length c2] := Vals.new wr [.slice a2 us.length c2] 32
        have hob := Lib.hid hM.block
        have hpc := hp.2.1
        have hpf := hp.2.2 1
        clear ho hp hb hM hc hs x5
        go_wp2_with (at_builtin; refine wpList_appM _ rfl _ _ rfl (p + 1) wq.heap.size _ _ xss rfl m6 _ _ _ _ us rfl hnew r6 (by omega) (by simp; omega) yss hyss.out (by omega) ?_)
        intro a7 c7 w7 o7 g7
        have z7 := g7.size
        simp at z7
        have p7 := p6.grown g7 (fun e => by have := (hob.out p e).1; omega)
        have b7 := b6.grown g7 (fun e => by have := (hob.out w.heap.size e).1; omega)
        have k7 := k6.grown g7 (fun k hk => by have := (hob.out k hk).1; omega)
        have t7 := t6.grownN g7 (fun k hk => by have := (hob.out k hk).1; omega)
        have hsp : Span p (p + 1) w7 (w7.setCell ⟨p, 1, none⟩ (.slice a7 yss.length c7)) := Span.one _
        have p8 := p7.put1 (.slice a7 yss.length c7)
        have b8 := b7.span hsp (.inl hpg)
        have m8 := (o7.span hsp (.inr (Nat.le_refl _))).mono (Nat.le_refl _) hsp.size
        have k8 := k7.span hsp (by omega)
        have t8 := t7.newer hsp (by omega)
        have hcc := p7.2.1
        have hff := p7.2.2 1
        clear g7 o7 m6 r6 p6 b6 k6 t6 hob hnew p7 b7 k7 t7 hsp hpc hpf
        go_wp2_with fail
        go_roundw
        case rel => exact ⟨k - 1, a7, c7, yss, by omega, by go_num, HL2, HB2, p8, b8, m8, k8, t8⟩
        case measure => simp [intOf]; omega

/-- What the result's cells, stored last, leave. -/
theorem gen_fin {w W : World} {g : Nat} {a : Option Addr} {c : Nat} {bs : List Int} {a1 : Option Addr} {c1 C C2 : Nat} {xss : List (List Int)} (hg : g < w.heap.size) (hs : Span g (g + 1) w W) (hc : Cur W g a c bs) (hM : OM W C C2 a1 c1 xss) (hC : w.heap.size < C) (hC2 : C2 ≤ W.heap.size) :
    Hid (∀ u v, OM ((W.setCell ⟨w.heap.size, 0, none⟩ u).setCell ⟨w.heap.size, 1, none⟩ v) w.heap.size ((W.setCell ⟨w.heap.size, 0, none⟩ u).setCell ⟨w.heap.size, 1, none⟩ v).heap.size a1 c1 xss ∧
      Cur ((W.setCell ⟨w.heap.size, 0, none⟩ u).setCell ⟨w.heap.size, 1, none⟩ v) g a c bs ∧ Span g (g + 1) w ((W.setCell ⟨w.heap.size, 0, none⟩ u).setCell ⟨w.heap.size, 1, none⟩ v)) := fun u v =>
  ⟨((hM.span (Span.one u) (.inr (by omega))).span (Span.one v) (.inr (by omega))).mono (by omega) (by simp; omega), (hc.span (Span.one u) hg).span (Span.one v) hg, (hs.newer (Span.one u) (Nat.le_refl _)).newer (Span.one v) (Nat.le_refl _)⟩

set_option maxHeartbeats 8000000 in
set_option maxRecDepth 100000 in
theorem l10Any_ok (g : Nat) (a : Option Addr) (c : Nat) (bs : List Int) (w : World) (h : Cur w g a c bs) :
    Calls Try.prog 121 #[curV g] w (DrG g a c bs (fun n xss => (-1 ≤ n ∧ n ≤ 1000000000001) ∧ xss.length ≤ 60 ∧ ∀ xs ∈ xss, xs.length ≤ 81) w) := by
  have hg := h.lt
  have CB := Lib.hid (fun W n (hW : Cur W g a c bs) (hn : n ≤ 1000000000) => l1Below_ok g a c bs n W hW hn)
  have CI := Lib.hid (l1Int_ok g a c bs)
  have CA := Lib.hid (fun W n m (hW : Cur W g a c bs) (hn : n ≤ 1000) (hm : m ≤ 40) => l6Any_ok g a c bs n m W hW hn hm)
  have CM := Lib.hid (fun W n m (hW : Cur W g a c bs) (hn : n ≤ 1000) (hm : m ≤ 40) => l6Matrix_ok g a c bs n m W hW hn hm)
  have k0 := h.ext ((Ext.refl w).alloc (.cells #[.int .i64 0, .slice none 0 0] 53))
  have s0 := (Span.refl g (g + 1) w).alloc (.cells #[.int .i64 0, .slice none 0 0] 53)
  have b0 := Box2.new w (.int .i64 0) (.slice none 0 0) 53
  have CG := Lib.hid (l10Gen_ok g a c bs _ k0)
  clear h k0
  go_enter Try.func121, Try.ntmps121
  go_wp2_with fail
  (with_reducible refine CG.out.mono ?_)
  rintro e w1 ⟨x, a1, c1, xss, rfl, ⟨⟨x0, x1⟩, hxl, hxs⟩, m1, k1, s1⟩
  have HX : Hid (xss.length ≤ 60 ∧ ∀ xs ∈ xss, xs.length ≤ 81) := ⟨by omega, fun xs hx => by have := hxs xs hx; omega⟩
  have b1 := b0.span s1 (.inr hg)
  have t1 := s0.trans s1
  have z1 := s1.size
  simp at z1
  have x2 := (Ext.refl w1).alloc (.cells #[.int .i64 x, .slice a1 xss.length c1] 53)
  have k2 := k1.ext x2
  have p2 := Box2.new w1 (.int .i64 x) (.slice a1 xss.length c1) 53
  have b2 := b1.ext x2
  have t2 := t1.alloc (.cells #[.int .i64 x, .slice a1 xss.length c1] 53)
  have m2 : OM _ (w.heap.size + 1) w1.heap.size a1 c1 xss := (m1.ext x2).mono (by simp) (Nat.le_refl _)
  clear CG s0 b0 b1 k1 s1 t1 m1 x2 hxs hxl
  go_wp2_with fail
  (with_reducible refine (CB.out _ _ k2 (by omega)).mono ?_)
  rintro e w2 ⟨y, rfl, y0, y1, k3, s3⟩
  obtain ⟨p, hp⟩ : ∃ p, w1.heap.size = p := ⟨_, rfl⟩
  have hpg : w.heap.size < p := by omega
  have p3 := p2.span s3 (.inr (by omega))
  have b3 := b2.span s3 (.inr hg)
  have m3 := m2.span s3 (.inr (by omega))
  have t3 := t2.trans s3
  rw [hp] at p3 m3 ⊢
  have z3 := p3.lt
  clear k2 p2 b2 t2 m2 s3 z1 hp
  by_cases e0 : y = 0
  · subst e0
    have x3 := (Ext.refl w2).alloc (.cells (I [-1, 1000000000000, 1000000000001]).toArray 3)
    have LV := Lib.hid (lit_span (w := w2) (g := g) k3.lt [-1, 1000000000000, 1000000000001] 3)
    have KL := Lib.hid (k3.ext x3)
    have p4 := p3.ext x3
    have b4 := b3.ext x3
    have m4 := m3.ext x3
    have t4 := t3.alloc (.cells (I [-1, 1000000000000, 1000000000001]).toArray 3)
    clear p3 b3 m3 t3 k3 x3
    go_wp2_with fail
    refine (CI.out (some ⟨w2.heap.size, 0, none⟩) 3 [-1, 1000000000000, 1000000000001] _ KL.out LV.out (by simp) (by simp)).mono ?_
    rintro e w4 ⟨z, rfl, hz, k5, s5⟩
    have hz2 : -1 ≤ z ∧ z ≤ 1000000000001 := by simp at hz; omega
    have p5 := p4.span s5 (.inr (by omega))
    have b5 := b4.span s5 (.inr hg)
    have m5 := m4.span s5 (.inr (by omega))
    have t5 := t4.trans s5
    have z5 := p5.lt
    have hsp : Span p (p + 1) w4 (w4.setCell ⟨p, 0, none⟩ (.int .i64 z)) := Span.one _
    have p6 := p5.put0 (.int .i64 z)
    have b6 := b5.span hsp (.inl hpg)
    have m6 := m5.span hsp (.inl (Nat.le_refl _))
    have k6 := k5.span hsp (by omega)
    have t6 := t5.newer hsp (by omega)
    obtain ⟨p50, p51, p52⟩ := p5
    have p520 := p52 0
    clear LV KL hz s5 p4 b4 m4 t4 b5 m5 t5 k5 p52 hsp
    have F := gen_fin hg t6 k6 m6 (by omega) (by first | (simp; done) | (simp; omega))
    obtain ⟨p30, p31, p32⟩ := p6
    obtain ⟨b30, b31, b32⟩ := b6
    have b320 := b32 0
    have b321 := b32 1
    have nb1 : p ≠ w.heap.size := by omega
    have nb2 : w.heap.size ≠ p := by omega
    have HXX : Hid ((-1 ≤ z ∧ z ≤ 1000000000001) ∧ xss.length ≤ 60 ∧ ∀ xs ∈ xss, xs.length ≤ 81) := ⟨⟨by omega, by omega⟩, HX.out⟩
    clear t6 k6 m6 b32 p32
    go_wp2_with fail
    refine bodyPost_ret (v := bsV z a1 c1 xss) (by simp only [results, Try.results121]; go_simp) rfl ?_
    exact ⟨z, a1, c1, xss, rfl, HXX.out, (F.out _ _).1, (F.out _ _).2.1, (F.out _ _).2.2⟩
  by_cases e1 : y = 1
  · subst e1
    clear m3
    go_wp2_with fail
    (with_reducible refine (CB.out _ _ k3 (by omega)).mono ?_)
    rintro e w3 ⟨y3, rfl, y30, y31, k4, s4⟩
    obtain ⟨n3, rfl⟩ := Int.eq_ofNat_of_zero_le y30
    have hn3 : n3 ≤ 3 := by omega
    have p4 := p3.span s4 (.inr (by omega))
    have b4 := b3.span s4 (.inr hg)
    have t4 := t3.trans s4
    have z4 := p4.lt
    clear k3 p3 b3 t3 s4 y30 y31
    go_wp2_with fail
    (with_reducible refine (CB.out _ _ k4 (by omega)).mono ?_)
    rintro e w4 ⟨y4, rfl, y40, y41, k5, s5⟩
    obtain ⟨n4, rfl⟩ := Int.eq_ofNat_of_zero_le y40
    have hn4 : n4 ≤ 3 := by omega
    have p5 := p4.span s5 (.inr (by omega))
    have b5 := b4.span s5 (.inr hg)
    have t5 := t4.trans s5
    have z5 := p5.lt
    clear k4 p4 b4 t4 s5 y40 y41
    go_wp2_with fail
    (with_reducible refine (CA.out _ n3 n4 k5 (by omega) (by omega)).mono ?_)
    rintro e w5 ⟨a2, c2, yss, rfl, hy, m6, k6, s6⟩
    have HY : Hid (yss.length ≤ 60 ∧ ∀ xs ∈ yss, xs.length ≤ 81) := by exact ⟨by omega, hy.2⟩
    have p6 := p5.span s6 (.inr (by omega))
    have b6 := b5.span s6 (.inr hg)
    have t6 := t5.trans s6
    have z6 := p6.lt
    have hsp : Span p (p + 1) w5 (w5.setCell ⟨p, 1, none⟩ (.slice a2 yss.length c2)) := Span.one _
    have pz := p6.put1 (.slice a2 yss.length c2)
    have bz := b6.span hsp (.inl hpg)
    have mz := (m6.mono (C := p + 1) (by omega) (Nat.le_refl _)).span hsp (.inr (Nat.le_refl _))
    have kz := k6.span hsp (by omega)
    have tz := t6.newer hsp (by omega)
    obtain ⟨q50, q51, q52⟩ := p6
    have q521 := q52 1
    clear s6 p5 b5 t5 k5 b6 m6 t6 k6 q52 hsp hy
    have F := gen_fin hg tz kz mz (by omega) (by first | (simp; done) | (simp; omega))
    obtain ⟨p30, p31, p32⟩ := pz
    obtain ⟨b30, b31, b32⟩ := bz
    have b320 := b32 0
    have b321 := b32 1
    have nb1 : p ≠ w.heap.size := by omega
    have nb2 : w.heap.size ≠ p := by omega
    have HXX : Hid ((-1 ≤ x ∧ x ≤ 1000000000001) ∧ yss.length ≤ 60 ∧ ∀ xs ∈ yss, xs.length ≤ 81) := ⟨⟨by omega, by omega⟩, HY.out⟩
    clear tz kz mz b32 p32
    go_wp2_with fail
    refine bodyPost_ret (v := bsV x a2 c2 yss) (by simp only [results, Try.results121]; go_simp) rfl ?_
    exact ⟨x, a2, c2, yss, rfl, HXX.out, (F.out _ _).1, (F.out _ _).2.1, (F.out _ _).2.2⟩
  by_cases e2 : y = 2
  · subst e2
    clear m3
    go_wp2_with fail
    (with_reducible refine (CB.out _ _ k3 (by omega)).mono ?_)
    rintro e w3 ⟨y3, rfl, y30, y31, k4, s4⟩
    obtain ⟨n3, rfl⟩ := Int.eq_ofNat_of_zero_le y30
    have hn3 : n3 ≤ 1 := by omega
    have p4 := p3.span s4 (.inr (by omega))
    have b4 := b3.span s4 (.inr hg)
    have t4 := t3.trans s4
    have z4 := p4.lt
    clear k3 p3 b3 t3 s4 y30 y31
    have CN := CM.out _ (8 + n3) 2 k4 (by omega) (by omega)
    rw [show ((8 + n3 : Nat) : Int) = 8 + (n3 : Int) from by omega, show ((2 : Nat) : Int) = 2 from rfl] at CN
    replace CN := Lib.hid CN
    go_wp2_with fail
    (with_reducible refine (CN.out).mono ?_)
    rintro e w4 ⟨a2, c2, yss, rfl, hy, m5, k5, s5⟩
    have HY : Hid (yss.length ≤ 60 ∧ ∀ xs ∈ yss, xs.length ≤ 81) := by exact ⟨by omega, fun xs hx => by have := (hy.2 xs hx).2; omega⟩
    have p5 := p4.span s5 (.inr (by omega))
    have b5 := b4.span s5 (.inr hg)
    have t5 := t4.trans s5
    have z5 := p5.lt
    have hsp : Span p (p + 1) w4 (w4.setCell ⟨p, 1, none⟩ (.slice a2 yss.length c2)) := Span.one _
    have pz := p5.put1 (.slice a2 yss.length c2)
    have bz := b5.span hsp (.inl hpg)
    have mz := (m5.mono (C := p + 1) (by omega) (Nat.le_refl _)).span hsp (.inr (Nat.le_refl _))
    have kz := k5.span hsp (by omega)
    have tz := t5.newer hsp (by omega)
    obtain ⟨q50, q51, q52⟩ := p5
    have q521 := q52 1
    clear s5 p4 b4 t4 k4 b5 m5 t5 k5 q52 hsp hy
    have F := gen_fin hg tz kz mz (by omega) (by first | (simp; done) | (simp; omega))
    obtain ⟨p30, p31, p32⟩ := pz
    obtain ⟨b30, b31, b32⟩ := bz
    have b320 := b32 0
    have b321 := b32 1
    have nb1 : p ≠ w.heap.size := by omega
    have nb2 : w.heap.size ≠ p := by omega
    have HXX : Hid ((-1 ≤ x ∧ x ≤ 1000000000001) ∧ yss.length ≤ 60 ∧ ∀ xs ∈ yss, xs.length ≤ 81) := ⟨⟨by omega, by omega⟩, HY.out⟩
    clear tz kz mz b32 p32
    go_wp2_with fail
    refine bodyPost_ret (v := bsV x a2 c2 yss) (by simp only [results, Try.results121]; go_simp) rfl ?_
    exact ⟨x, a2, c2, yss, rfl, HXX.out, (F.out _ _).1, (F.out _ _).2.1, (F.out _ _).2.2⟩
  by_cases e3 : y = 3
  · subst e3
    clear m3
    go_wp2_with fail
    (with_reducible refine (CB.out _ _ k3 (by omega)).mono ?_)
    rintro e w3 ⟨y3, rfl, y30, y31, k4, s4⟩
    obtain ⟨n3, rfl⟩ := Int.eq_ofNat_of_zero_le y30
    have hn3 : n3 ≤ 1 := by omega
    have p4 := p3.span s4 (.inr (by omega))
    have b4 := b3.span s4 (.inr hg)
    have t4 := t3.trans s4
    have z4 := p4.lt
    clear k3 p3 b3 t3 s4 y30 y31
    have CN := CM.out _ 1 (16 + n3) k4 (by omega) (by omega)
    rw [show ((16 + n3 : Nat) : Int) = 16 + (n3 : Int) from by omega, show ((1 : Nat) : Int) = 1 from rfl] at CN
    replace CN := Lib.hid CN
    go_wp2_with fail
    (with_reducible refine (CN.out).mono ?_)
    rintro e w4 ⟨a2, c2, yss, rfl, hy, m5, k5, s5⟩
    have HY : Hid (yss.length ≤ 60 ∧ ∀ xs ∈ yss, xs.length ≤ 81) := by exact ⟨by omega, fun xs hx => by have := (hy.2 xs hx).2; omega⟩
    have p5 := p4.span s5 (.inr (by omega))
    have b5 := b4.span s5 (.inr hg)
    have t5 := t4.trans s5
    have z5 := p5.lt
    have hsp : Span p (p + 1) w4 (w4.setCell ⟨p, 1, none⟩ (.slice a2 yss.length c2)) := Span.one _
    have pz := p5.put1 (.slice a2 yss.length c2)
    have bz := b5.span hsp (.inl hpg)
    have mz := (m5.mono (C := p + 1) (by omega) (Nat.le_refl _)).span hsp (.inr (Nat.le_refl _))
    have kz := k5.span hsp (by omega)
    have tz := t5.newer hsp (by omega)
    obtain ⟨q50, q51, q52⟩ := p5
    have q521 := q52 1
    clear s5 p4 b4 t4 k4 b5 m5 t5 k5 q52 hsp hy
    have F := gen_fin hg tz kz mz (by omega) (by first | (simp; done) | (simp; omega))
    obtain ⟨p30, p31, p32⟩ := pz
    obtain ⟨b30, b31, b32⟩ := bz
    have b320 := b32 0
    have b321 := b32 1
    have nb1 : p ≠ w.heap.size := by omega
    have nb2 : w.heap.size ≠ p := by omega
    have HXX : Hid ((-1 ≤ x ∧ x ≤ 1000000000001) ∧ yss.length ≤ 60 ∧ ∀ xs ∈ yss, xs.length ≤ 81) := ⟨⟨by omega, by omega⟩, HY.out⟩
    clear tz kz mz b32 p32
    go_wp2_with fail
    refine bodyPost_ret (v := bsV x a2 c2 yss) (by simp only [results, Try.results121]; go_simp) rfl ?_
    exact ⟨x, a2, c2, yss, rfl, HXX.out, (F.out _ _).1, (F.out _ _).2.1, (F.out _ _).2.2⟩
  have F := gen_fin hg t3 k3 m3 (by omega) (by omega)
  obtain ⟨p30, p31, p32⟩ := p3
  obtain ⟨b30, b31, b32⟩ := b3
  have b320 := b32 0
  have b321 := b32 1
  have nb1 : p ≠ w.heap.size := by omega
  have nb2 : w.heap.size ≠ p := by omega
  have HXX : Hid ((-1 ≤ x ∧ x ≤ 1000000000001) ∧ xss.length ≤ 60 ∧ ∀ xs ∈ xss, xs.length ≤ 81) := ⟨⟨by omega, by omega⟩, HX.out⟩
  clear t3 k3 m3 b32 p32 HX
  go_wp2_with fail
  refine bodyPost_ret (v := bsV x a1 c1 xss) (by simp only [results, Try.results121]; go_simp) rfl ?_
  exact ⟨x, a1, c1, xss, rfl, HXX.out, (F.out _ _).1, (F.out _ _).2.1, (F.out _ _).2.2⟩

end Go.Proofs.Ytkegknophppdgaa
