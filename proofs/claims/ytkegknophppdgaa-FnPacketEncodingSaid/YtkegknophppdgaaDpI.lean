/- Contract of the program's DecodePacket; the law. -/
import Derived.Test.YtkegknophppdgaaDpW
import Derived.Test.YtkegknophppdgaaSrc
import Derived.Deep.DrawnRows
import Derived.Deep.DeepCutAuto
namespace Go.Proofs.Ytkegknophppdgaa
open Go.RowKit
set_option linter.unusedVariables false
set_option maxRecDepth 20000
attribute [local go_sem ↓] Go.wp_at_zero Go.wp_at_succ

theorem OwnI.capp {w : World} {B : Nat} {a : Option Addr} {c : Nat} {xs : List Int} (h : OwnI w B a c xs) : xs.length ≤ c := by
  rcases h.2 with ⟨h, h'⟩ | ⟨g, cap, cur, h, _, _, hnc, _⟩
  · omega
  · injection h with _ _ h3; omega

set_option maxHeartbeats 4000000 in
set_option maxRecDepth 100000 in
theorem implDecodePacket_y (a : Option Addr) (c : Nat) (bs : List Int) (x y z : Int) (e : Nat) (w : World) (hk : 8 < y) (hy : y ≤ 1000000000000)
    (C0 : Hid (∀ W, Ext w W → Calls Try.prog 108 #[.slice a bs.length c, .int .i64 0, .int .i64 3] W (NewI3 W [x, y, z] (e : Int) true))) :
    Calls Try.prog 42 #[.slice a bs.length c] w (NewPkF w 0 [] [] false) := by
  go_enter Try.func42, Try.ntmps42
  go_wp2_with fail
  (with_reducible refine (C0.out _ ((Ext.refl w).alloc _)).mono ?_)
  rintro e w1 ⟨a1, c1, rfl, o1, e1⟩
  have e01 := ((Ext.refl w).alloc _).trans e1
  obtain ⟨g, rfl, g1, g2, p0, p1, p2⟩ := o1.head3
  have z1 := e1.size_le
  simp at z1 g1
  obtain ⟨k1, f1⟩ := e1.look
  simp at k1 f1
  clear o1
  go_wp2_with fail
  refine bodyPost_ret (v := .tuple #[pkV 0 none 0 [] none 0 [], .bool false]) (by simp only [results, Try.results42]; go_simp) rfl ⟨none, 0, none, 0, rfl, OwnI.nil _ _, OwnI.nil _ _, fun k hk => by simp [blockOf] at hk, ?_⟩
  exact ((e01.setCell (by simp) _).setCell (by simp) _).setCell (by simp) _

set_option maxHeartbeats 4000000 in
set_option maxRecDepth 100000 in
theorem implDecodePacket_z (a : Option Addr) (c : Nat) (bs : List Int) (x y z : Int) (e : Nat) (w : World) (hk : ¬ 8 < y) (hj : 16 < z) (hz : z ≤ 1000000000000)
    (C0 : Hid (∀ W, Ext w W → Calls Try.prog 108 #[.slice a bs.length c, .int .i64 0, .int .i64 3] W (NewI3 W [x, y, z] (e : Int) true))) :
    Calls Try.prog 42 #[.slice a bs.length c] w (NewPkF w 0 [] [] false) := by
  go_enter Try.func42, Try.ntmps42
  go_wp2_with fail
  (with_reducible refine (C0.out _ ((Ext.refl w).alloc _)).mono ?_)
  rintro e w1 ⟨a1, c1, rfl, o1, e1⟩
  have e01 := ((Ext.refl w).alloc _).trans e1
  obtain ⟨g, rfl, g1, g2, p0, p1, p2⟩ := o1.head3
  have z1 := e1.size_le
  simp at z1 g1
  obtain ⟨k1, f1⟩ := e1.look
  simp at k1 f1
  clear o1
  go_wp2_with fail
  refine bodyPost_ret (v := .tuple #[pkV 0 none 0 [] none 0 [], .bool false]) (by simp only [results, Try.results42]; go_simp) rfl ⟨none, 0, none, 0, rfl, OwnI.nil _ _, OwnI.nil _ _, fun k hk => by simp [blockOf] at hk, ?_⟩
  exact ((e01.setCell (by simp) _).setCell (by simp) _).setCell (by simp) _

set_option maxHeartbeats 4000000 in
set_option maxRecDepth 100000 in
theorem implDecodePacket_b (a : Option Addr) (c : Nat) (bs : List Int) (x : Int) (k j : Nat) (e : Nat) (w : World) (hk : k ≤ 8) (hj : j ≤ 16)
    (C0 : Hid (∀ W, Ext w W → Calls Try.prog 108 #[.slice a bs.length c, .int .i64 0, .int .i64 3] W (NewI3 W [x, (k : Int), (j : Int)] (e : Int) true)))
    (C1 : Hid (∀ W, Ext w W → Calls Try.prog 108 #[.slice a bs.length c, .int .i64 (e : Int), .int .i64 ((k : Int) + (j : Int))] W (NewI3 W [] 0 false))) :
    Calls Try.prog 42 #[.slice a bs.length c] w (NewPkF w 0 [] [] false) := by
  have i1 : ¬ (8 : Int) < (k : Int) := by omega
  have i2 : ¬ (16 : Int) < (j : Int) := by omega
  have hw : IntKind.i64.wrap ((k : Int) + (j : Int)) = (k : Int) + (j : Int) := by rw [IntKind.wrap_i64]; omega
  go_enter Try.func42, Try.ntmps42
  go_wp2_with fail
  (with_reducible refine (C0.out _ ((Ext.refl w).alloc _)).mono ?_)
  rintro e w1 ⟨a1, c1, rfl, o1, e1⟩
  have e01 := ((Ext.refl w).alloc _).trans e1
  obtain ⟨g, rfl, g1, g2, p0, p1, p2⟩ := o1.head3
  have z1 := e1.size_le
  simp at z1 g1
  have e01d := e01.drew
  clear o1
  go_wp2_with fail
  go_region_held3 (fun w' => w'.cell? ⟨g, 1, none⟩ = some (.int .i64 (k : Int)) ∧ w'.cell? ⟨g, 2, none⟩ = some (.int .i64 (j : Int)))
    (first | exact ⟨e2.cell p1, e2.cell p2⟩ | go_keep)
    ((go_at_call 108; (with_reducible refine (C1.out _ e01d).mono ?_); rintro e w2 ⟨a2, c2, rfl, o2, e2'⟩; have e2 := (Ext.refl w1).drew.trans e2'))
  have e02 := e01.trans e2
  have z2 := e2.size_le
  obtain ⟨k1, f1⟩ := (e1.trans e2).look
  simp at k1 f1
  go_wp2_with fail
  refine bodyPost_ret (v := .tuple #[pkV 0 none 0 [] none 0 [], .bool false]) (by simp only [results, Try.results42]; go_simp) rfl ⟨none, 0, none, 0, rfl, OwnI.nil _ _, OwnI.nil _ _, fun k hk => by simp [blockOf] at hk, ?_⟩
  exact ((e02.setCell (by simp) _).setCell (by simp) _).setCell (by simp) _

/-- The two halves of a body. -/
theorem Vals.take {w : World} {a : Option Addr} {xs : List Int} (h : Vals w a (I xs)) (k : Nat) : Vals w a (I (xs.take k)) := fun i hi => by
  have hi' : i < xs.length := by simp at hi; omega
  obtain ⟨b, o, h1, h2⟩ := h i (by simpa using hi')
  exact ⟨b, o, h1, by rw [h2]; simp⟩
theorem Vals.drop {w : World} {g o : Nat} {xs : List Int} (h : Vals w (some ⟨g, o, none⟩) (I xs)) (k : Nat) : Vals w (some ⟨g, o + k, none⟩) (I (xs.drop k)) := fun i hi => by
  have hi' : k + i < xs.length := by simp at hi; omega
  obtain ⟨b, o', h1, h2⟩ := h (k + i) (by simpa using hi')
  injection h1 with h1
  injection h1 with h1 h1'
  subst h1 h1'
  exact ⟨g, o + k, rfl, by rw [Nat.add_assoc, h2]; simp⟩

/-- A packet of the call's own lies at this pointer. -/
def PkAt (B : World) (x : Int) (xs ys : List Int) (s : Value) (W : World) : Prop :=
  ∃ p a3 c3 a4 c4, s = .pointer (some ⟨p, 0, none⟩) ∧ B.heap.size ≤ p ∧ W.cell? ⟨p, 0, none⟩ = some (.int .i64 x) ∧ W.cell? ⟨p, 1, none⟩ = some (.slice a3 xs.length c3) ∧ W.cell? ⟨p, 2, none⟩ = some (.slice a4 ys.length c4) ∧ OwnI W B.heap.size a3 c3 xs ∧ OwnI W B.heap.size a4 c4 ys ∧ Apart a3 a4 ∧ Ext B W
theorem pk_laid {B w : World} {g : Nat} {x : Int} {xs ys : List Int} {a3 a4 : Option Addr} {c3 c4 : Nat} {u0 u1 u2 : Value} (hg : B.heap.size ≤ g) (h0 : w.cell? ⟨g, 0, none⟩ = some u0) (h1 : w.cell? ⟨g, 1, none⟩ = some u1) (h2 : w.cell? ⟨g, 2, none⟩ = some u2)
    (e : Ext B w) (o3 : OwnI w B.heap.size a3 c3 xs) (o4 : OwnI w B.heap.size a4 c4 ys) (n3 : ∀ k, blockOf a3 = some k → k ≠ g) (n4 : ∀ k, blockOf a4 = some k → k ≠ g) (hap : Apart a3 a4) :
    PkAt B x xs ys (.pointer (some ⟨g, 0, none⟩)) (((w.setCell ⟨g, 0, none⟩ (.int .i64 x)).setCell ⟨g, 1, none⟩ (.slice a3 xs.length c3)).setCell ⟨g, 2, none⟩ (.slice a4 ys.length c4)) := by
  have hs : Span g (g + 1) w (((w.setCell ⟨g, 0, none⟩ (.int .i64 x)).setCell ⟨g, 1, none⟩ (.slice a3 xs.length c3)).setCell ⟨g, 2, none⟩ (.slice a4 ys.length c4)) :=
    (((Span.refl g (g + 1) w).setCell (p := ⟨g, 0, none⟩) ⟨Nat.le_refl _, Nat.lt_succ_self _⟩ _).setCell (p := ⟨g, 1, none⟩) ⟨Nat.le_refl _, Nat.lt_succ_self _⟩ _).setCell (p := ⟨g, 2, none⟩) ⟨Nat.le_refl _, Nat.lt_succ_self _⟩ _
  refine ⟨g, a3, c3, a4, c4, rfl, hg, ?_, ?_, ?_, o3.of_block fun k hk => hs.block k (o3.block k hk).2 (by have := n3 k hk; omega), o4.of_block fun k hk => hs.block k (o4.block k hk).2 (by have := n4 k hk; omega), hap, Span.ext e hs hg⟩
  · simp [World.cell?_setCell_other, World.cell?_setCell_same' _ _ _ (show (w.cell? ⟨g, 0, none⟩).isSome = true by rw [h0]; rfl)]
  · simp [World.cell?_setCell_other, World.cell?_setCell_same', h1]
  · simp [World.cell?_setCell_other, World.cell?_setCell_same', h2]
theorem pk_new {B w : World} {x : Int} {xs ys : List Int} {a3 a4 : Option Addr} {c3 c4 : Nat} {T : TypeId} (e : Ext B w) (o3 : OwnI w B.heap.size a3 c3 xs) (o4 : OwnI w B.heap.size a4 c4 ys) (hap : Apart a3 a4) :
    PkAt B x xs ys (.pointer (some ⟨w.heap.size, 0, none⟩)) (w.alloc (.cells #[.int .i64 x, .slice a3 xs.length c3, .slice a4 ys.length c4] T)) :=
  ⟨w.heap.size, a3, c3, a4, c4, rfl, e.size_le, by simp, by simp, by simp, o3.ext ((Ext.refl w).alloc _), o4.ext ((Ext.refl w).alloc _), hap, e.alloc _⟩

set_option maxHeartbeats 8000000 in
set_option maxRecDepth 100000 in
theorem implDecodePacket_u (a : Option Addr) (c : Nat) (bs : List Int) (x : Int) (k j : Nat) (e : Nat) (e2 : Int) (l xs ys : List Int) (w : World) (hk : k ≤ 8) (hj : j ≤ 16) (hb0 : 0 < bs.length) (hbl : bs.length ≤ 1048576) (hl : l.length = k + j) (hxs : xs = l.take k) (hys : ys = l.drop k) (h : Vals w a (Y bs))
    (hq : decide (encPk x xs ys = bs) = false)
    (C0 : Hid (∀ W, Ext w W → Calls Try.prog 108 #[.slice a bs.length c, .int .i64 0, .int .i64 3] W (NewI3 W [x, (k : Int), (j : Int)] (e : Int) true)))
    (C1 : Hid (∀ W, Ext w W → Calls Try.prog 108 #[.slice a bs.length c, .int .i64 (e : Int), .int .i64 ((k : Int) + (j : Int))] W (NewI3 W l e2 true))) :
    Calls Try.prog 42 #[.slice a bs.length c] w (NewPkF w 0 [] [] false) := by
  have i1 : ¬ (8 : Int) < (k : Int) := by omega
  have i2 : ¬ (16 : Int) < (j : Int) := by omega
  have i3 : ((bs.length : Int) == 0) = false := beq_eq_false_iff_ne.2 (by omega)
  have hw : IntKind.i64.wrap ((k : Int) + (j : Int)) = (k : Int) + (j : Int) := by rw [IntKind.wrap_i64]; omega
  have hxl0 : xs.length = k := by rw [hxs, List.length_take]; omega
  have hyl0 : ys.length = l.length - k := by rw [hys, List.length_drop]
  have hx8 : xs.length ≤ 40 := by omega
  have hy8 : ys.length ≤ 40 := by omega
  have hxl := Lib.hid hxl0
  have hyl := Lib.hid hyl0
  clear hxl0 hyl0
  have hkl : (k : Int) ≤ (l.length : Int) := by omega
  have HL := Lib.hid hl
  have HX := Lib.hid hxs
  have HY := Lib.hid hys
  have HQ := Lib.hid hq
  have H := Lib.hid h
  have hll : l.length ≤ 40 := by omega
  clear hl hxs hys hq h
  go_enter Try.func42, Try.ntmps42
  go_wp2_with fail
  (with_reducible refine (C0.out _ ((Ext.refl w).alloc _)).mono ?_)
  rintro e w1 ⟨a1, c1, rfl, o1, e1⟩
  have e01 := ((Ext.refl w).alloc _).trans e1
  obtain ⟨g, rfl, g1, g2, p0, p1, p2⟩ := o1.head3
  have z1 := e1.size_le
  simp at z1 g1
  have e01d := e01.drew
  clear o1
  go_wp2_with fail
  go_region_held3 (fun w' => w'.cell? ⟨g, 1, none⟩ = some (.int .i64 (k : Int)) ∧ w'.cell? ⟨g, 2, none⟩ = some (.int .i64 (j : Int)))
    (first | exact ⟨e2.cell p1, e2.cell p2⟩ | go_keep)
    ((go_at_call 108; (with_reducible refine (C1.out _ e01d).mono ?_); rintro e w2 ⟨a2, c2, rfl, o2', e2'⟩; have e2 := (Ext.refl w1).drew.trans e2'))
  have e02 := e01.trans e2
  have z2 := e2.size_le
  have e12 := e1.trans e2
  have o2 : OwnI w2 w1.heap.size a2 c2 l := o2'
  replace p0 := e2.cell p0
  replace p1 := e2.cell p1
  have hcap := o2.capp
  have hg2 : g < w2.heap.size := by omega
  have hkc : (k : Int) ≤ (c2 : Int) := by omega
  have hlc : (l.length : Int) ≤ (c2 : Int) := by omega
  have R1 : Hid (∀ W, Ext w2 W → Calls Try.prog 105 #[.slice a2 k c2] W (NewI W xs)) := fun W hW => by
    have := cloneI_ok a2 c2 xs W (by rw [HX.out]; exact (o2.vals.take k).ext hW) (by omega)
    rw [hxl.out] at this
    exact this
  have R2 : ∃ A2, (A2 = (if c2 = k then a2 else a2.map fun x => x.add k)) ∧ Hid (∀ W, Ext w2 W → Calls Try.prog 105 #[.slice A2 (l.length - k) (c2 - k)] W (NewI W ys)) := by
    refine ⟨_, rfl, fun W hW => ?_⟩
    have hv : Vals w2 (if c2 = k then a2 else a2.map fun x => x.add k) (I ys) := by
      rw [HY.out]
      split
      · rename_i e
        have : l.drop k = [] := List.drop_of_length_le (by omega)
        rw [this]
        exact Vals.nil _ _
      · rcases o2.2 with ⟨hn, hn'⟩ | ⟨g', cap, cur, hn, _⟩
        · have : l.drop k = [] := List.drop_of_length_le (by omega)
          rw [this]
          exact Vals.nil _ _
        · injection hn with hn
          subst hn
          have := o2.vals.drop k
          simpa [Addr.add_lit] using this
    have := cloneI_ok _ (c2 - k) ys W (hv.ext hW) (by omega)
    rw [hyl.out] at this
    exact this
  obtain ⟨A2, hA2, R2⟩ := R2
  have hform : (a2 = none ∧ A2 = none) ∨ (∃ g', a2 = some ⟨g', 0, none⟩ ∧ ((k = c2 ∧ A2 = some ⟨g', 0, none⟩) ∨ (¬ c2 = k ∧ A2 = some ⟨g', k, none⟩))) := by
    rcases o2.2 with ⟨hn, hn'⟩ | ⟨g', cap, cur, hn, _⟩
    · injection hn with hn
      subst hn
      refine .inl ⟨rfl, ?_⟩
      rw [hA2]
      split <;> rfl
    · injection hn with hn
      subst hn
      refine .inr ⟨g', rfl, ?_⟩
      by_cases e : c2 = k
      · exact .inl ⟨e.symm, by rw [hA2, if_pos e]⟩
      · exact .inr ⟨e, by rw [hA2, if_neg e]; simp [Addr.add_lit]⟩
  have dd : Ext w2 w2.drew := (Ext.refl w2).drew
  have ng : g ≠ w2.heap.size := by omega
  have E12 := Lib.hid e12
  have HF := Lib.hid hform
  clear p2 o2' e01d hA2 o2 e12 hform
  go_upto_region 7 with fail
  go_cut [9] (fun s9 wx => PkAt w2 x xs ys s9 wx)
  case first =>
    have R2z : Hid (k = c2 → ∀ W, Ext w2 W → Calls Try.prog 105 #[.slice A2 0 0] W (NewI W ys)) := fun hk W hW => by
      have := R2.out W hW
      rw [show l.length - k = 0 by omega, show c2 - k = 0 by omega] at this
      exact this
    rcases HF.out with ⟨rfl, rfl⟩ | ⟨g', rfl, ⟨rfl, rfl⟩ | ⟨hne, rfl⟩⟩
    case' inr.inl =>
      replace R2 : Hid (∀ W, Ext w2 W → Calls Try.prog 105 #[.slice (some ⟨g', 0, none⟩) 0 0] W (NewI W ys)) := R2z.out rfl
    all_goals
      clear HF
      go_region_held3 (fun w' => w'.cell? ⟨g, 0, none⟩ = some (.int .i64 x) ∧ w'.cell? ⟨g, 1, none⟩ = some (.int .i64 (k : Int)))
        (first | with_reducible exact ⟨cell3 (e4.cell (e3.cell p0)) ng, cell3 (e4.cell (e3.cell p1)) ng⟩ | with_reducible exact ⟨cell3 (e4.cell (e3.cell p0)) ng3, cell3 (e4.cell (e3.cell p1)) ng3⟩ | with_reducible exact ⟨e4.cell (e3.cell p0), e4.cell (e3.cell p1)⟩ | with_reducible exact ⟨((Ext.refl w4).alloc _).cell (e4.cell (e3.cell p0)), ((Ext.refl w4).alloc _).cell (e4.cell (e3.cell p1))⟩ | with_reducible exact ⟨((Ext.refl w3).alloc _).cell (e3.cell p0), ((Ext.refl w3).alloc _).cell (e3.cell p1)⟩ | with_reducible exact ⟨e3.cell p0, e3.cell p1⟩ | with_reducible exact ⟨((Ext.refl w2).alloc _).drew.cell p0, ((Ext.refl w2).alloc _).drew.cell p1⟩ | go_keep)
        (first
          | (go_at_call 105; (with_reducible refine (R2.out _ e3).mono ?_); rintro e w4 ⟨a4, c4, rfl, o4, e4⟩; have c0 := e4.cell r0; have c1' := e4.cell r1; have c2' := e4.cell r2; have f0 := ((e4.look).2 _ 0 r9).trans fr0; have f1 := ((e4.look).2 _ 1 r9).trans fr1; have f2 := ((e4.look).2 _ 2 r9).trans fr2)
          | (go_at_call 105; (with_reducible refine (R2.out _ e3).mono ?_); rintro e w4 ⟨a4, c4, rfl, o4, e4⟩)
          | (go_at_call 105; (with_reducible refine (R2.out _ (e3.alloc _)).mono ?_); rintro e w4 ⟨a4, c4, rfl, o4', e4'⟩; have e4 := ((Ext.refl w3).alloc _).trans e4'; have o4 := o4'.more (B' := w3.heap.size) (by simp); have q0 := e4'.cell (p := ⟨w3.heap.size, 0, none⟩) (v := .int .i64 0) (by simp); have q1 := e4'.cell (p := ⟨w3.heap.size, 1, none⟩) (v := .slice none 0 0) (by simp); have q2 := e4'.cell (p := ⟨w3.heap.size, 2, none⟩) (v := .slice none 0 0) (by simp); have m4 : ∀ k, blockOf a4 = some k → k ≠ w3.heap.size := (fun k hk => by have := (o4'.block k hk).1; simp at this; omega); have f0 : w4.frozen? ⟨w3.heap.size, 0, none⟩ = false := ((e4'.look).2 _ 0 (by simp)).trans (by simp); have f1 : w4.frozen? ⟨w3.heap.size, 1, none⟩ = false := ((e4'.look).2 _ 1 (by simp)).trans (by simp); have f2 : w4.frozen? ⟨w3.heap.size, 2, none⟩ = false := ((e4'.look).2 _ 2 (by simp)).trans (by simp))
          | (go_at_call 105; (with_reducible refine (R1.out _ dd).mono ?_); rintro e w3 ⟨a3, c3, rfl, o3', e3'⟩; have e3 := dd.trans e3'; have o3 : OwnI w3 w2.heap.size a3 c3 xs := o3'; have ng3 : g ≠ w3.heap.size := by have := e3.size_le; omega)
          | (go_at_call 105; (with_reducible refine (R1.out _ (((Ext.refl w2).alloc _).drew)).mono ?_); rintro e w3 ⟨a3, c3, rfl, o3', e3'⟩; have e3 := (((Ext.refl w2).alloc _).drew).trans e3'; have o3 : OwnI w3 w2.heap.size a3 c3 xs := o3'.more (by simp); have ng3 : g ≠ w3.heap.size := (by have := e3.size_le; omega); have r9 : w2.heap.size < w3.heap.size := (by have := e3'.size_le; simp at this; omega); have fr0 : w3.frozen? ⟨w2.heap.size, 0, none⟩ = false := ((e3'.look).2 _ 0 (by simp)).trans (by simp); have fr1 : w3.frozen? ⟨w2.heap.size, 1, none⟩ = false := ((e3'.look).2 _ 1 (by simp)).trans (by simp); have fr2 : w3.frozen? ⟨w2.heap.size, 2, none⟩ = false := ((e3'.look).2 _ 2 (by simp)).trans (by simp); have r0 := e3'.cell (p := ⟨w2.heap.size, 0, none⟩) (v := .int .i64 0) (by simp); have r1 := e3'.cell (p := ⟨w2.heap.size, 1, none⟩) (v := .slice none 0 0) (by simp); have r2 := e3'.cell (p := ⟨w2.heap.size, 2, none⟩) (v := .slice none 0 0) (by simp); have m3 : ∀ k, blockOf a3 = some k → k ≠ w2.heap.size := (fun k hk => by have := (o3'.block k hk).1; simp at this; omega)))
    all_goals
      have hap : Apart a3 a4 := fun k h1 h2 => by
        have := (o3.block k h1).2
        have := (o4.block k h2).1
        omega
      have o3e := o3.ext e4
      have o4e := o4.more e3.size_le
      have e34 := e3.trans e4
      have l3 : ∀ k, blockOf a3 = some k → k ≠ w3.heap.size := fun k hk => by have := (o3.block k hk).2; omega
      have l4 : ∀ k, blockOf a4 = some k → w3.heap.size ≤ k := fun k hk => (o4.block k hk).1
      have s3 := e3.size_le
      go_wp2_with fail
      go_meet
      first
        | with_reducible exact pk_new e34 o3e o4e hap
        | with_reducible exact pk_laid s3 q0 q1 q2 e34 o3e o4e l3 m4 hap
        | (have m5 : ∀ k, blockOf a4 = some k → k ≠ w2.heap.size := fun k hk => by (have := l4 k hk; have := World.block_lt_of_cell? _ _ r0; simp at this; omega)
           with_reducible exact pk_laid (Nat.le_refl _) (e4.cell r0) (e4.cell r1) (e4.cell r2) e34 o3e o4e m3 m5 hap)
  case rest =>
    obtain ⟨p, a3, c3, a4, c4, rfl, hp, y0, y1, y2, o3, o4, hap, e3⟩ := hcut
    have e03 := e02.trans e3
    have C3 := Lib.hid (implEncodePacket_ok x a3 c3 xs a4 c4 ys _ o3.vals o4.vals (by omega) (by omega))
    have hpl := Lib.hid (encPk_len x xs ys)
    obtain ⟨ps, hps⟩ : ∃ ps, Hid (ps = encPk x xs ys) := ⟨_, rfl⟩
    rw [← hps.out] at C3 hpl HQ
    clear R1 R2 HF p0 p1
    go_wp2_with fail
    (with_reducible refine C3.out.mono ?_)
    rintro e w5 ⟨a5, c5, rfl, o5, e5⟩
    have C4 := Lib.hid (implEqualBytes_ok a5 a c5 c ps bs w5 o5.vals (H.out.ext (e03.trans e5)) (by have := hpl.out; omega))
    rw [HQ.out] at C4
    go_wp2_with fail
    (with_reducible refine C4.out.mono ?_)
    rintro e w6 ⟨rfl, e6⟩
    have e56 := e5.trans e6.ext
    have E6 := (E12.out.trans e3).trans e56
    obtain ⟨k6, f6⟩ := E6.look
    simp at k6 f6
    have e06 := e03.trans e56
    have z6 := E6.size_le
    simp at z6
    replace y0 := e56.cell y0
    replace y1 := e56.cell y1
    replace y2 := e56.cell y2
    have np : ¬ w.heap.size = p := by omega
    have np' : ¬ p = w.heap.size := by omega
    go_wp2_with fail
    first
      | refine bodyPost_ret (v := .tuple #[pkV 0 none 0 [] none 0 [], .bool false]) (by simp only [results, Try.results42]; go_simp) rfl ⟨none, 0, none, 0, rfl, OwnI.nil _ _, OwnI.nil _ _, fun k hk => by simp [blockOf] at hk, ?_⟩
        exact ((e06.setCell (by simp) _).setCell (by simp) _).setCell (by simp) _
      | refine bodyPost_ret (v := .tuple #[pkV x a3 c3 xs a4 c4 ys, .bool true]) (by simp only [results, Try.results42]; go_simp) rfl ⟨a3, c3, a4, c4, rfl, ?_, ?_, hap, ?_⟩
        · exact ((((o3.ext e56).setCell (by simp; omega) _).setCell (by simp; omega) _).setCell (by simp; omega) _).more (by omega)
        · exact ((((o4.ext e56).setCell (by simp; omega) _).setCell (by simp; omega) _).setCell (by simp; omega) _).more (by omega)
        · exact ((e06.setCell (by simp) _).setCell (by simp) _).setCell (by simp) _

set_option maxHeartbeats 8000000 in
set_option maxRecDepth 100000 in
theorem implDecodePacket_v (a : Option Addr) (c : Nat) (bs : List Int) (x : Int) (k j : Nat) (e : Nat) (e2 : Int) (l xs ys : List Int) (w : World) (hk : k ≤ 8) (hj : j ≤ 16) (hb0 : 0 < bs.length) (hbl : bs.length ≤ 1048576) (hl : l.length = k + j) (hxs : xs = l.take k) (hys : ys = l.drop k) (h : Vals w a (Y bs))
    (hq : decide (encPk x xs ys = bs) = true)
    (C0 : Hid (∀ W, Ext w W → Calls Try.prog 108 #[.slice a bs.length c, .int .i64 0, .int .i64 3] W (NewI3 W [x, (k : Int), (j : Int)] (e : Int) true)))
    (C1 : Hid (∀ W, Ext w W → Calls Try.prog 108 #[.slice a bs.length c, .int .i64 (e : Int), .int .i64 ((k : Int) + (j : Int))] W (NewI3 W l e2 true))) :
    Calls Try.prog 42 #[.slice a bs.length c] w (NewPkF w x xs ys true) := by
  have i1 : ¬ (8 : Int) < (k : Int) := by omega
  have i2 : ¬ (16 : Int) < (j : Int) := by omega
  have i3 : ((bs.length : Int) == 0) = false := beq_eq_false_iff_ne.2 (by omega)
  have hw : IntKind.i64.wrap ((k : Int) + (j : Int)) = (k : Int) + (j : Int) := by rw [IntKind.wrap_i64]; omega
  have hxl0 : xs.length = k := by rw [hxs, List.length_take]; omega
  have hyl0 : ys.length = l.length - k := by rw [hys, List.length_drop]
  have hx8 : xs.length ≤ 40 := by omega
  have hy8 : ys.length ≤ 40 := by omega
  have hxl := Lib.hid hxl0
  have hyl := Lib.hid hyl0
  clear hxl0 hyl0
  have hkl : (k : Int) ≤ (l.length : Int) := by omega
  have HL := Lib.hid hl
  have HX := Lib.hid hxs
  have HY := Lib.hid hys
  have HQ := Lib.hid hq
  have H := Lib.hid h
  have hll : l.length ≤ 40 := by omega
  clear hl hxs hys hq h
  go_enter Try.func42, Try.ntmps42
  go_wp2_with fail
  (with_reducible refine (C0.out _ ((Ext.refl w).alloc _)).mono ?_)
  rintro e w1 ⟨a1, c1, rfl, o1, e1⟩
  have e01 := ((Ext.refl w).alloc _).trans e1
  obtain ⟨g, rfl, g1, g2, p0, p1, p2⟩ := o1.head3
  have z1 := e1.size_le
  simp at z1 g1
  have e01d := e01.drew
  clear o1
  go_wp2_with fail
  go_region_held3 (fun w' => w'.cell? ⟨g, 1, none⟩ = some (.int .i64 (k : Int)) ∧ w'.cell? ⟨g, 2, none⟩ = some (.int .i64 (j : Int)))
    (first | exact ⟨e2.cell p1, e2.cell p2⟩ | go_keep)
    ((go_at_call 108; (with_reducible refine (C1.out _ e01d).mono ?_); rintro e w2 ⟨a2, c2, rfl, o2', e2'⟩; have e2 := (Ext.refl w1).drew.trans e2'))
  have e02 := e01.trans e2
  have z2 := e2.size_le
  have e12 := e1.trans e2
  have o2 : OwnI w2 w1.heap.size a2 c2 l := o2'
  replace p0 := e2.cell p0
  replace p1 := e2.cell p1
  have hcap := o2.capp
  have hg2 : g < w2.heap.size := by omega
  have hkc : (k : Int) ≤ (c2 : Int) := by omega
  have hlc : (l.length : Int) ≤ (c2 : Int) := by omega
  have R1 : Hid (∀ W, Ext w2 W → Calls Try.prog 105 #[.slice a2 k c2] W (NewI W xs)) := fun W hW => by
    have := cloneI_ok a2 c2 xs W (by rw [HX.out]; exact (o2.vals.take k).ext hW) (by omega)
    rw [hxl.out] at this
    exact this
  have R2 : ∃ A2, (A2 = (if c2 = k then a2 else a2.map fun x => x.add k)) ∧ Hid (∀ W, Ext w2 W → Calls Try.prog 105 #[.slice A2 (l.length - k) (c2 - k)] W (NewI W ys)) := by
    refine ⟨_, rfl, fun W hW => ?_⟩
    have hv : Vals w2 (if c2 = k then a2 else a2.map fun x => x.add k) (I ys) := by
      rw [HY.out]
      split
      · rename_i e
        have : l.drop k = [] := List.drop_of_length_le (by omega)
        rw [this]
        exact Vals.nil _ _
      · rcases o2.2 with ⟨hn, hn'⟩ | ⟨g', cap, cur, hn, _⟩
        · have : l.drop k = [] := List.drop_of_length_le (by omega)
          rw [this]
          exact Vals.nil _ _
        · injection hn with hn
          subst hn
          have := o2.vals.drop k
          simpa [Addr.add_lit] using this
    have := cloneI_ok _ (c2 - k) ys W (hv.ext hW) (by omega)
    rw [hyl.out] at this
    exact this
  obtain ⟨A2, hA2, R2⟩ := R2
  have hform : (a2 = none ∧ A2 = none) ∨ (∃ g', a2 = some ⟨g', 0, none⟩ ∧ ((k = c2 ∧ A2 = some ⟨g', 0, none⟩) ∨ (¬ c2 = k ∧ A2 = some ⟨g', k, none⟩))) := by
    rcases o2.2 with ⟨hn, hn'⟩ | ⟨g', cap, cur, hn, _⟩
    · injection hn with hn
      subst hn
      refine .inl ⟨rfl, ?_⟩
      rw [hA2]
      split <;> rfl
    · injection hn with hn
      subst hn
      refine .inr ⟨g', rfl, ?_⟩
      by_cases e : c2 = k
      · exact .inl ⟨e.symm, by rw [hA2, if_pos e]⟩
      · exact .inr ⟨e, by rw [hA2, if_neg e]; simp [Addr.add_lit]⟩
  have dd : Ext w2 w2.drew := (Ext.refl w2).drew
  have ng : g ≠ w2.heap.size := by omega
  have E12 := Lib.hid e12
  have HF := Lib.hid hform
  clear p2 o2' e01d hA2 o2 e12 hform
  go_upto_region 7 with fail
  go_cut [9] (fun s9 wx => PkAt w2 x xs ys s9 wx)
  case first =>
    have R2z : Hid (k = c2 → ∀ W, Ext w2 W → Calls Try.prog 105 #[.slice A2 0 0] W (NewI W ys)) := fun hk W hW => by
      have := R2.out W hW
      rw [show l.length - k = 0 by omega, show c2 - k = 0 by omega] at this
      exact this
    rcases HF.out with ⟨rfl, rfl⟩ | ⟨g', rfl, ⟨rfl, rfl⟩ | ⟨hne, rfl⟩⟩
    case' inr.inl =>
      replace R2 : Hid (∀ W, Ext w2 W → Calls Try.prog 105 #[.slice (some ⟨g', 0, none⟩) 0 0] W (NewI W ys)) := R2z.out rfl
    all_goals
      clear HF
      go_region_held3 (fun w' => w'.cell? ⟨g, 0, none⟩ = some (.int .i64 x) ∧ w'.cell? ⟨g, 1, none⟩ = some (.int .i64 (k : Int)))
        (first | with_reducible exact ⟨cell3 (e4.cell (e3.cell p0)) ng, cell3 (e4.cell (e3.cell p1)) ng⟩ | with_reducible exact ⟨cell3 (e4.cell (e3.cell p0)) ng3, cell3 (e4.cell (e3.cell p1)) ng3⟩ | with_reducible exact ⟨e4.cell (e3.cell p0), e4.cell (e3.cell p1)⟩ | with_reducible exact ⟨((Ext.refl w4).alloc _).cell (e4.cell (e3.cell p0)), ((Ext.refl w4).alloc _).cell (e4.cell (e3.cell p1))⟩ | with_reducible exact ⟨((Ext.refl w3).alloc _).cell (e3.cell p0), ((Ext.refl w3).alloc _).cell (e3.cell p1)⟩ | with_reducible exact ⟨e3.cell p0, e3.cell p1⟩ | with_reducible exact ⟨((Ext.refl w2).alloc _).drew.cell p0, ((Ext.refl w2).alloc _).drew.cell p1⟩ | go_keep)
        (first
          | (go_at_call 105; (with_reducible refine (R2.out _ e3).mono ?_); rintro e w4 ⟨a4, c4, rfl, o4, e4⟩; have c0 := e4.cell r0; have c1' := e4.cell r1; have c2' := e4.cell r2; have f0 := ((e4.look).2 _ 0 r9).trans fr0; have f1 := ((e4.look).2 _ 1 r9).trans fr1; have f2 := ((e4.look).2 _ 2 r9).trans fr2)
          | (go_at_call 105; (with_reducible refine (R2.out _ e3).mono ?_); rintro e w4 ⟨a4, c4, rfl, o4, e4⟩)
          | (go_at_call 105; (with_reducible refine (R2.out _ (e3.alloc _)).mono ?_); rintro e w4 ⟨a4, c4, rfl, o4', e4'⟩; have e4 := ((Ext.refl w3).alloc _).trans e4'; have o4 := o4'.more (B' := w3.heap.size) (by simp); have q0 := e4'.cell (p := ⟨w3.heap.size, 0, none⟩) (v := .int .i64 0) (by simp); have q1 := e4'.cell (p := ⟨w3.heap.size, 1, none⟩) (v := .slice none 0 0) (by simp); have q2 := e4'.cell (p := ⟨w3.heap.size, 2, none⟩) (v := .slice none 0 0) (by simp); have m4 : ∀ k, blockOf a4 = some k → k ≠ w3.heap.size := (fun k hk => by have := (o4'.block k hk).1; simp at this; omega); have f0 : w4.frozen? ⟨w3.heap.size, 0, none⟩ = false := ((e4'.look).2 _ 0 (by simp)).trans (by simp); have f1 : w4.frozen? ⟨w3.heap.size, 1, none⟩ = false := ((e4'.look).2 _ 1 (by simp)).trans (by simp); have f2 : w4.frozen? ⟨w3.heap.size, 2, none⟩ = false := ((e4'.look).2 _ 2 (by simp)).trans (by simp))
          | (go_at_call 105; (with_reducible refine (R1.out _ dd).mono ?_); rintro e w3 ⟨a3, c3, rfl, o3', e3'⟩; have e3 := dd.trans e3'; have o3 : OwnI w3 w2.heap.size a3 c3 xs := o3'; have ng3 : g ≠ w3.heap.size := by have := e3.size_le; omega)
          | (go_at_call 105; (with_reducible refine (R1.out _ (((Ext.refl w2).alloc _).drew)).mono ?_); rintro e w3 ⟨a3, c3, rfl, o3', e3'⟩; have e3 := (((Ext.refl w2).alloc _).drew).trans e3'; have o3 : OwnI w3 w2.heap.size a3 c3 xs := o3'.more (by simp); have ng3 : g ≠ w3.heap.size := (by have := e3.size_le; omega); have r9 : w2.heap.size < w3.heap.size := (by have := e3'.size_le; simp at this; omega); have fr0 : w3.frozen? ⟨w2.heap.size, 0, none⟩ = false := ((e3'.look).2 _ 0 (by simp)).trans (by simp); have fr1 : w3.frozen? ⟨w2.heap.size, 1, none⟩ = false := ((e3'.look).2 _ 1 (by simp)).trans (by simp); have fr2 : w3.frozen? ⟨w2.heap.size, 2, none⟩ = false := ((e3'.look).2 _ 2 (by simp)).trans (by simp); have r0 := e3'.cell (p := ⟨w2.heap.size, 0, none⟩) (v := .int .i64 0) (by simp); have r1 := e3'.cell (p := ⟨w2.heap.size, 1, none⟩) (v := .slice none 0 0) (by simp); have r2 := e3'.cell (p := ⟨w2.heap.size, 2, none⟩) (v := .slice none 0 0) (by simp); have m3 : ∀ k, blockOf a3 = some k → k ≠ w2.heap.size := (fun k hk => by have := (o3'.block k hk).1; simp at this; omega)))
    all_goals
      have hap : Apart a3 a4 := fun k h1 h2 => by
        have := (o3.block k h1).2
        have := (o4.block k h2).1
        omega
      have o3e := o3.ext e4
      have o4e := o4.more e3.size_le
      have e34 := e3.trans e4
      have l3 : ∀ k, blockOf a3 = some k → k ≠ w3.heap.size := fun k hk => by have := (o3.block k hk).2; omega
      have l4 : ∀ k, blockOf a4 = some k → w3.heap.size ≤ k := fun k hk => (o4.block k hk).1
      have s3 := e3.size_le
      go_wp2_with fail
      go_meet
      first
        | with_reducible exact pk_new e34 o3e o4e hap
        | with_reducible exact pk_laid s3 q0 q1 q2 e34 o3e o4e l3 m4 hap
        | (have m5 : ∀ k, blockOf a4 = some k → k ≠ w2.heap.size := fun k hk => by (have := l4 k hk; have := World.block_lt_of_cell? _ _ r0; simp at this; omega)
           with_reducible exact pk_laid (Nat.le_refl _) (e4.cell r0) (e4.cell r1) (e4.cell r2) e34 o3e o4e m3 m5 hap)
  case rest =>
    obtain ⟨p, a3, c3, a4, c4, rfl, hp, y0, y1, y2, o3, o4, hap, e3⟩ := hcut
    have e03 := e02.trans e3
    have C3 := Lib.hid (implEncodePacket_ok x a3 c3 xs a4 c4 ys _ o3.vals o4.vals (by omega) (by omega))
    have hpl := Lib.hid (encPk_len x xs ys)
    obtain ⟨ps, hps⟩ : ∃ ps, Hid (ps = encPk x xs ys) := ⟨_, rfl⟩
    rw [← hps.out] at C3 hpl HQ
    clear R1 R2 HF p0 p1
    go_wp2_with fail
    (with_reducible refine C3.out.mono ?_)
    rintro e w5 ⟨a5, c5, rfl, o5, e5⟩
    have C4 := Lib.hid (implEqualBytes_ok a5 a c5 c ps bs w5 o5.vals (H.out.ext (e03.trans e5)) (by have := hpl.out; omega))
    rw [HQ.out] at C4
    go_wp2_with fail
    (with_reducible refine C4.out.mono ?_)
    rintro e w6 ⟨rfl, e6⟩
    have e56 := e5.trans e6.ext
    have E6 := (E12.out.trans e3).trans e56
    obtain ⟨k6, f6⟩ := E6.look
    simp at k6 f6
    have e06 := e03.trans e56
    have z6 := E6.size_le
    simp at z6
    replace y0 := e56.cell y0
    replace y1 := e56.cell y1
    replace y2 := e56.cell y2
    have np : ¬ w.heap.size = p := by omega
    have np' : ¬ p = w.heap.size := by omega
    go_wp2_with fail
    first
      | refine bodyPost_ret (v := .tuple #[pkV 0 none 0 [] none 0 [], .bool false]) (by simp only [results, Try.results42]; go_simp) rfl ⟨none, 0, none, 0, rfl, OwnI.nil _ _, OwnI.nil _ _, fun k hk => by simp [blockOf] at hk, ?_⟩
        exact ((e06.setCell (by simp) _).setCell (by simp) _).setCell (by simp) _
      | refine bodyPost_ret (v := .tuple #[pkV x a3 c3 xs a4 c4 ys, .bool true]) (by simp only [results, Try.results42]; go_simp) rfl ⟨a3, c3, a4, c4, rfl, ?_, ?_, hap, ?_⟩
        · exact ((((o3.ext e56).setCell (by simp; omega) _).setCell (by simp; omega) _).setCell (by simp; omega) _).more (by omega)
        · exact ((((o4.ext e56).setCell (by simp; omega) _).setCell (by simp; omega) _).setCell (by simp; omega) _).more (by omega)
        · exact ((e06.setCell (by simp) _).setCell (by simp) _).setCell (by simp) _

theorem implDecodePacket_ok (a : Option Addr) (c : Nat) (bs : List Int) (w : World) (h : Vals w a (Y bs)) (hb : AllB bs) (hl : bs.length ≤ 1048576) :
    Calls Try.prog 42 #[.slice a bs.length c] w (NewPkF w (dpN bs) (dpX bs) (dpY bs) (dpOk bs)) := by
  have CD := fun (t k : Int) (W : World) (hW : Ext w W) => implDecodeInts_ok a c bs t k W (h.ext hW) hb hl
  have hd3 := decI_head (bs := bs) 3 (by omega)
  cases hd : rdTo bs 0 3 with
  | none =>
    obtain ⟨q1, q2, q3, q4⟩ := dp_none (dec_no_head hd)
    rw [q1, q2, q3, q4]
    refine implDecodePacket_n a c bs w fun W hW => ?_
    obtain ⟨d1, d2, d3⟩ := di_none (hd3.trans hd)
    have := CD 0 3 W hW
    rw [show (3 : Int) = ((3 : Nat) : Int) by rfl, d1, d2, d3] at this
    exact this
  | some p =>
    obtain ⟨l, e⟩ := p
    obtain ⟨x, y, z, rfl, hx0, hx1, hy0, hy1, hz0, hz1⟩ := rdTo_three hb hd
    have hel := (rdTo_le hb (Nat.zero_le _) hd).1
    have C0 : Hid (∀ W, Ext w W → Calls Try.prog 108 #[.slice a bs.length c, .int .i64 0, .int .i64 3] W (NewI3 W [x, y, z] (e : Int) true)) := fun W hW => by
      obtain ⟨d1, d2, d3⟩ := di_some (hd3.trans hd)
      have := CD 0 3 W hW
      rw [show (3 : Int) = ((3 : Nat) : Int) by rfl, d1, d2, d3] at this
      exact this
    by_cases hy : 8 < y
    · obtain ⟨q1, q2, q3, q4⟩ := dp_none (dec_big hd (.inl hy))
      rw [q1, q2, q3, q4]
      exact implDecodePacket_y a c bs x y z e w hy hy1 C0
    by_cases hz : 16 < z
    · obtain ⟨q1, q2, q3, q4⟩ := dp_none (dec_big hd (.inr hz))
      rw [q1, q2, q3, q4]
      exact implDecodePacket_z a c bs x y z e w hy hz hz1 C0
    obtain ⟨k, rfl⟩ := Int.eq_ofNat_of_zero_le hy0
    obtain ⟨j, rfl⟩ := Int.eq_ofNat_of_zero_le hz0
    have hdk : decI bs (e : Int) ((k : Int) + (j : Int)) = rdTo bs e (k + j) := by
      rw [decI_in hel (by omega) (by omega)]
      congr 1
    have C1 := CD (e : Int) ((k : Int) + (j : Int))
    cases h1 : rdTo bs e (k + j) with
    | none =>
      obtain ⟨d1, d2, d3⟩ := di_none (hdk.trans h1)
      rw [d1, d2, d3] at C1
      obtain ⟨q1, q2, q3, q4⟩ := dp_none (dec_no_body hd h1)
      rw [q1, q2, q3, q4]
      exact implDecodePacket_b a c bs x k j e w (by omega) (by omega) C0 C1
    | some p =>
      obtain ⟨l, e2⟩ := p
      obtain ⟨d1, d2, d3⟩ := di_some (hdk.trans h1)
      rw [d1, d2, d3] at C1
      have hll := (rdTo_sound hb _ _ _ h1).1
      have hb0 : 0 < bs.length := by
        cases bs with
        | nil => simp [rdTo, rdU, rdF] at hd
        | cons _ _ => simp
      by_cases he : encPk x (l.take k) (l.drop k) = bs
      · obtain ⟨q1, q2, q3, q4⟩ := dp_some (dec_eq hb0 he)
        rw [q1, q2, q3, q4]
        exact implDecodePacket_v a c bs x k j e _ l _ _ w (by omega) (by omega) hb0 hl hll rfl rfl h (decide_eq_true he) C0 C1
      · obtain ⟨q1, q2, q3, q4⟩ := dp_none (dec_ne hd h1 he)
        rw [q1, q2, q3, q4]
        exact implDecodePacket_u a c bs x k j e _ l _ _ w (by omega) (by omega) hb0 hl hll rfl rfl h (decide_eq_false he) C0 C1

set_option maxHeartbeats 4000000 in
set_option maxRecDepth 100000 in
theorem lawDecodePacket (a0 : Option Addr) (c0 : Nat) (xs0 : List Int) (w : World) (r0_0 : Vals w a0 (Y xs0)) (m0_0 : xs0.length ≤ maxLen) (m0_1 : ∀ x ∈ xs0, 0 ≤ x ∧ x ≤ 255) :
    Calls Try.prog 6 #[.slice a0 xs0.length c0] w (Gives w (.bool true)) := by
  replace m0_1 := Lib.hid m0_1
  by_cases hl0 : xs0.length ≤ 1048576
  rotate_left
  · have d0 : (1048576 : Int) < (xs0.length : Int) := by omega
    unfold maxLen at m0_0
    go_enter Try.func6, Try.ntmps6
    go_wp2_with fail
    go_ret
    exact ⟨rfl, Ext.refl w⟩
  have d0 : decide ((1048576 : Int) < (xs0.length : Int)) = false := by simp; omega
  have hres1 : (dpX xs0).length ≤ 1048576 := (dp_len xs0).1
  have hres2 : (dpY xs0).length ≤ 1048576 := (dp_len xs0).2
  go_enter Try.func6, Try.ntmps6
  go_wp2_with fail
  refine (toByteS_ok _ _ _ _ (r0_0.ext (Ext.refl w)) hl0).mono ?_
  rintro e w1 ⟨t1a, t1c, rfl, t1o, e1⟩
  have E := (Ext.refl w).trans e1
  have z0 := e1.size_le
  replace t1o := OB.of t1o
  go_wp2_with fail
  refine (specDecodePacket_ok _ _ _ _ (t1o.vals) m0_1.out hl0).mono ?_
  rintro e w2 ⟨u0a, u0c, u0b, u0d, rfl, u0o, u0p, u0x, e2⟩
  have z2 := e2.size_le
  replace t1o := t1o.ext e2
  replace E := E.trans e2
  clear e2
  replace u0o := OPk.of u0o u0p u0x
  go_wp2_with fail
  refine (toByteS_ok _ _ _ _ (r0_0.ext (E.alloc _)) hl0).mono ?_
  rintro e w3 ⟨t3a, t3c, rfl, t3o, e3⟩
  have z3 := e3.size_le
  simp at z3
  replace u0o := u0o.ext (((Ext.refl w2).alloc _).trans e3)
  have w0_0 := e3.cell (p := ⟨w2.heap.size, 0, none⟩) (v := .int .i64 (dpN xs0)) (by simp)
  have w0_1 := e3.cell (p := ⟨w2.heap.size, 1, none⟩) (v := .slice u0a (dpX xs0).length u0c) (by simp)
  have w0_2 := e3.cell (p := ⟨w2.heap.size, 2, none⟩) (v := .slice u0b (dpY xs0).length u0d) (by simp)
  replace E := (E.alloc _).trans e3
  clear e3
  replace t3o := OB.of t3o
  replace t3o := t3o.mono (C := w2.heap.size + 1) (C2 := w3.heap.size) (by simp) (Nat.le_refl _)
  go_wp2_with fail
  refine (implDecodePacket_ok _ _ _ _ (t3o.vals) m0_1.out hl0).mono ?_
  rintro e w4 ⟨u1a, u1c, u1b, u1d, rfl, u1o, u1p, u1x, e4⟩
  have z4 := e4.size_le
  replace w0_0 := e4.cell w0_0
  replace w0_1 := e4.cell w0_1
  replace w0_2 := e4.cell w0_2
  replace u0o := u0o.ext e4
  replace t3o := t3o.ext e4
  replace E := E.trans e4
  clear e4
  replace u1o := OPk.of u1o u1p u1x
  have qself := eqPk_self (dpN xs0) (dpX xs0) (dpY xs0)
  have qflag : ((dpOk xs0) != (dpOk xs0)) = false := by simp
  have y_w0_0 := ((Ext.refl w4).alloc (.cells #[.int .i64 (dpN xs0), .slice u1a (dpX xs0).length u1c, .slice u1b (dpY xs0).length u1d] 35)).cell w0_0
  have y_w0_1 := ((Ext.refl w4).alloc (.cells #[.int .i64 (dpN xs0), .slice u1a (dpX xs0).length u1c, .slice u1b (dpY xs0).length u1d] 35)).cell w0_1
  have y_w0_2 := ((Ext.refl w4).alloc (.cells #[.int .i64 (dpN xs0), .slice u1a (dpX xs0).length u1c, .slice u1b (dpY xs0).length u1d] 35)).cell w0_2
  go_wp2_with fail
  refine (eqCodedPacket_ok _ _ _ _ _ _ _ _ _ _ _ _ _ _ _ ((u1o.one).ext ((Ext.refl _).alloc _)) ((u1o.two).ext ((Ext.refl _).alloc _)) ((u0o.one).ext ((Ext.refl _).alloc _)) ((u0o.two).ext ((Ext.refl _).alloc _)) hres1 hres2).mono ?_
  clear y_w0_0 y_w0_1 y_w0_2
  rintro e w5 ⟨rfl, e5⟩
  have z5 := e5.size_le
  simp at z5
  replace w0_0 := (((Ext.refl w4).alloc _).trans e5).cell w0_0
  replace w0_1 := (((Ext.refl w4).alloc _).trans e5).cell w0_1
  replace w0_2 := (((Ext.refl w4).alloc _).trans e5).cell w0_2
  replace u0o := u0o.ext (((Ext.refl w4).alloc _).trans e5)
  replace t3o := t3o.ext (((Ext.refl w4).alloc _).trans e5)
  replace u1o := u1o.ext (((Ext.refl w4).alloc _).trans e5)
  have g0_0 := e5.cell (p := ⟨w4.heap.size, 0, none⟩) (v := .int .i64 (dpN xs0)) (by simp)
  have g0_1 := e5.cell (p := ⟨w4.heap.size, 1, none⟩) (v := .slice u1a (dpX xs0).length u1c) (by simp)
  have g0_2 := e5.cell (p := ⟨w4.heap.size, 2, none⟩) (v := .slice u1b (dpY xs0).length u1d) (by simp)
  replace E := (E.alloc _).trans e5
  clear e5
  go_wp2_with fail
  refine (toByteS_ok _ _ _ _ (r0_0.ext (E)) hl0).mono ?_
  rintro e w6 ⟨t6a, t6c, rfl, t6o, e6⟩
  have z6 := e6.size_le
  replace w0_0 := e6.cell w0_0
  replace w0_1 := e6.cell w0_1
  replace w0_2 := e6.cell w0_2
  replace g0_0 := e6.cell g0_0
  replace g0_1 := e6.cell g0_1
  replace g0_2 := e6.cell g0_2
  replace u0o := u0o.ext e6
  replace t3o := t3o.ext e6
  replace u1o := u1o.ext e6
  replace E := E.trans e6
  clear e6
  replace t6o := OB.of t6o
  go_wp2_with fail
  refine (eqByteS_ok _ _ _ _ _ _ _ (t3o.vals) (t6o.vals) (by omega)).mono ?_
  rintro e w7 ⟨rfl, e7⟩
  replace e7 := Dr.ext e7
  have z7 := e7.size_le
  replace w0_0 := e7.cell w0_0
  replace w0_1 := e7.cell w0_1
  replace w0_2 := e7.cell w0_2
  replace g0_0 := e7.cell g0_0
  replace g0_1 := e7.cell g0_1
  replace g0_2 := e7.cell g0_2
  replace u0o := u0o.ext e7
  replace t3o := t3o.ext e7
  replace u1o := u1o.ext e7
  replace E := E.trans e7
  clear e7
  go_wp2_with fail
  refine (markByteS_ok _ _ _ _ _ _ _ t3o (by omega) (by omega) (by omega)).mono ?_
  rintro e w8 ⟨rfl, t3o', s8⟩
  have z8 := s8.size
  replace w0_0 := s8.cell w0_0 (by show w2.heap.size < _ ∨ _ ≤ w2.heap.size; omega)
  replace w0_1 := s8.cell w0_1 (by show w2.heap.size < _ ∨ _ ≤ w2.heap.size; omega)
  replace w0_2 := s8.cell w0_2 (by show w2.heap.size < _ ∨ _ ≤ w2.heap.size; omega)
  replace g0_0 := s8.cell g0_0 (by show w4.heap.size < _ ∨ _ ≤ w4.heap.size; omega)
  replace g0_1 := s8.cell g0_1 (by show w4.heap.size < _ ∨ _ ≤ w4.heap.size; omega)
  replace g0_2 := s8.cell g0_2 (by show w4.heap.size < _ ∨ _ ≤ w4.heap.size; omega)
  replace u0o := u0o.span s8 (by omega)
  replace u1o := u1o.span s8 (by omega)
  replace E := Span.ext E s8 (by omega)
  clear s8 t3o
  have t3o := t3o'
  clear t3o'
  go_wp2_with fail
  refine (eqCodedPacket_ok _ _ _ _ _ _ _ _ _ _ _ _ _ _ _ (u1o.one) (u1o.two) (u0o.one) (u0o.two) hres1 hres2).mono ?_
  rintro e w9 ⟨rfl, e9⟩
  have z9 := e9.size_le
  replace w0_0 := e9.cell w0_0
  replace w0_1 := e9.cell w0_1
  replace w0_2 := e9.cell w0_2
  replace g0_0 := e9.cell g0_0
  replace g0_1 := e9.cell g0_1
  replace g0_2 := e9.cell g0_2
  replace u0o := u0o.ext e9
  replace u1o := u1o.ext e9
  replace E := E.trans e9
  clear e9
  go_wp2_with fail
  refine (markCodedPacket_ok _ _ _ _ _ _ _ _ _ _ _ u1o (by omega) (by omega) (by omega) (by omega) (by omega)).mono ?_
  rintro e w10 ⟨rfl, u1o', s10⟩
  have z10 := s10.size
  replace w0_0 := s10.cell w0_0 (by show w2.heap.size < _ ∨ _ ≤ w2.heap.size; omega)
  replace w0_1 := s10.cell w0_1 (by show w2.heap.size < _ ∨ _ ≤ w2.heap.size; omega)
  replace w0_2 := s10.cell w0_2 (by show w2.heap.size < _ ∨ _ ≤ w2.heap.size; omega)
  replace g0_0 := s10.cell g0_0 (by show w4.heap.size < _ ∨ _ ≤ w4.heap.size; omega)
  replace g0_1 := s10.cell g0_1 (by show w4.heap.size < _ ∨ _ ≤ w4.heap.size; omega)
  replace g0_2 := s10.cell g0_2 (by show w4.heap.size < _ ∨ _ ≤ w4.heap.size; omega)
  replace u0o := u0o.span s10 (by omega)
  replace E := Span.ext E s10 (by omega)
  clear s10 u1o
  have u1o := u1o'
  clear u1o'
  go_wp2_with fail
  refine (heldCodedPacket_ok _ _ _ _ _ _ _ _ _ (u1o.one) (u1o.two) (by omega) (by omega) (by omega) (by omega)).mono ?_
  rintro e w11 ⟨rfl, e11⟩
  have z11 := e11.size_le
  replace w0_0 := e11.cell w0_0
  replace w0_1 := e11.cell w0_1
  replace w0_2 := e11.cell w0_2
  replace g0_0 := e11.cell g0_0
  replace g0_1 := e11.cell g0_1
  replace g0_2 := e11.cell g0_2
  replace u0o := u0o.ext e11
  replace u1o := u1o.ext e11
  replace E := E.trans e11
  clear e11
  go_wp2_with fail
  refine (toByteS_ok _ _ _ _ (r0_0.ext (E)) hl0).mono ?_
  rintro e w12 ⟨t12a, t12c, rfl, t12o, e12⟩
  have z12 := e12.size_le
  replace w0_0 := e12.cell w0_0
  replace w0_1 := e12.cell w0_1
  replace w0_2 := e12.cell w0_2
  replace g0_0 := e12.cell g0_0
  replace g0_1 := e12.cell g0_1
  replace g0_2 := e12.cell g0_2
  replace u0o := u0o.ext e12
  replace u1o := u1o.ext e12
  replace E := E.trans e12
  clear e12
  replace t12o := OB.of t12o
  go_wp2_with fail
  refine (implDecodePacket_ok _ _ _ _ (t12o.vals) m0_1.out hl0).mono ?_
  rintro e w13 ⟨u2a, u2c, u2b, u2d, rfl, u2o, u2p, u2x, e13⟩
  have z13 := e13.size_le
  replace w0_0 := e13.cell w0_0
  replace w0_1 := e13.cell w0_1
  replace w0_2 := e13.cell w0_2
  replace g0_0 := e13.cell g0_0
  replace g0_1 := e13.cell g0_1
  replace g0_2 := e13.cell g0_2
  replace u0o := u0o.ext e13
  replace u1o := u1o.ext e13
  replace t12o := t12o.ext e13
  replace E := E.trans e13
  clear e13
  replace u2o := OPk.of u2o u2p u2x
  have y_w0_0 := ((Ext.refl w13).alloc (.cells #[.int .i64 (dpN xs0), .slice u2a (dpX xs0).length u2c, .slice u2b (dpY xs0).length u2d] 35)).cell w0_0
  have y_w0_1 := ((Ext.refl w13).alloc (.cells #[.int .i64 (dpN xs0), .slice u2a (dpX xs0).length u2c, .slice u2b (dpY xs0).length u2d] 35)).cell w0_1
  have y_w0_2 := ((Ext.refl w13).alloc (.cells #[.int .i64 (dpN xs0), .slice u2a (dpX xs0).length u2c, .slice u2b (dpY xs0).length u2d] 35)).cell w0_2
  have y_g0_0 := ((Ext.refl w13).alloc (.cells #[.int .i64 (dpN xs0), .slice u2a (dpX xs0).length u2c, .slice u2b (dpY xs0).length u2d] 35)).cell g0_0
  have y_g0_1 := ((Ext.refl w13).alloc (.cells #[.int .i64 (dpN xs0), .slice u2a (dpX xs0).length u2c, .slice u2b (dpY xs0).length u2d] 35)).cell g0_1
  have y_g0_2 := ((Ext.refl w13).alloc (.cells #[.int .i64 (dpN xs0), .slice u2a (dpX xs0).length u2c, .slice u2b (dpY xs0).length u2d] 35)).cell g0_2
  go_wp2_with fail
  refine (eqCodedPacket_ok _ _ _ _ _ _ _ _ _ _ _ _ _ _ _ ((u2o.one).ext ((Ext.refl _).alloc _)) ((u2o.two).ext ((Ext.refl _).alloc _)) ((u0o.one).ext ((Ext.refl _).alloc _)) ((u0o.two).ext ((Ext.refl _).alloc _)) hres1 hres2).mono ?_
  clear y_w0_0 y_w0_1 y_w0_2 y_g0_0 y_g0_1 y_g0_2
  rintro e w14 ⟨rfl, e14⟩
  have z14 := e14.size_le
  simp at z14
  replace w0_0 := (((Ext.refl w13).alloc _).trans e14).cell w0_0
  replace w0_1 := (((Ext.refl w13).alloc _).trans e14).cell w0_1
  replace w0_2 := (((Ext.refl w13).alloc _).trans e14).cell w0_2
  replace g0_0 := (((Ext.refl w13).alloc _).trans e14).cell g0_0
  replace g0_1 := (((Ext.refl w13).alloc _).trans e14).cell g0_1
  replace g0_2 := (((Ext.refl w13).alloc _).trans e14).cell g0_2
  replace u0o := u0o.ext (((Ext.refl w13).alloc _).trans e14)
  replace u1o := u1o.ext (((Ext.refl w13).alloc _).trans e14)
  replace u2o := u2o.ext (((Ext.refl w13).alloc _).trans e14)
  have h0_0 := e14.cell (p := ⟨w13.heap.size, 0, none⟩) (v := .int .i64 (dpN xs0)) (by simp)
  have h0_1 := e14.cell (p := ⟨w13.heap.size, 1, none⟩) (v := .slice u2a (dpX xs0).length u2c) (by simp)
  have h0_2 := e14.cell (p := ⟨w13.heap.size, 2, none⟩) (v := .slice u2b (dpY xs0).length u2d) (by simp)
  replace E := (E.alloc _).trans e14
  clear e14
  go_wp2_with fail
  refine (heldCodedPacket_ok _ _ _ _ _ _ _ _ _ (u1o.one) (u1o.two) (by omega) (by omega) (by omega) (by omega)).mono ?_
  rintro e w15 ⟨rfl, e15⟩
  have z15 := e15.size_le
  replace w0_0 := e15.cell w0_0
  replace w0_1 := e15.cell w0_1
  replace w0_2 := e15.cell w0_2
  replace g0_0 := e15.cell g0_0
  replace g0_1 := e15.cell g0_1
  replace g0_2 := e15.cell g0_2
  replace h0_0 := e15.cell h0_0
  replace h0_1 := e15.cell h0_1
  replace h0_2 := e15.cell h0_2
  replace u0o := u0o.ext e15
  replace u1o := u1o.ext e15
  replace u2o := u2o.ext e15
  replace E := E.trans e15
  clear e15
  go_wp2_with fail
  go_ret
  exact ⟨rfl, E⟩

end Go.Proofs.Ytkegknophppdgaa
