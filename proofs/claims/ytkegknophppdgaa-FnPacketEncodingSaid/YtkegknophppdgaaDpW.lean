/- Contracts of the reference's DecodeInts and of DecodePacket (program and reference). -/
import Derived.Test.YtkegknophppdgaaRdW
import Derived.Test.YtkegknophppdgaaDcp
import Derived.Test.YtkegknophppdgaaCode
namespace Go.Proofs.Ytkegknophppdgaa
open Go.RowKit
set_option linter.unusedVariables false
set_option maxRecDepth 20000

set_option maxHeartbeats 4000000 in
theorem specDecodeInts_ok (a : Option Addr) (c : Nat) (bs : List Int) (t k : Int) (w : World) (h : Vals w a (Y bs)) (hb : AllB bs) (hl : bs.length ≤ 1048576) :
    Calls Try.prog 106 #[.slice a bs.length c, .int .i64 t, .int .i64 k] w (NewI3 w (diL bs t k) (diE bs t k) (diOk bs t k)) := by
  have o0 := OwnI.new w w.heap.size [] (Nat.le_refl _) (by simp)
  have e0 := (Ext.refl w).alloc (.cells (I []).toArray 3)
  have O0 := Lib.hid o0
  have E0 := Lib.hid e0
  clear o0 e0
  cases h1 : inR k 0 100
  · obtain ⟨d1, d2, d3⟩ := di_none (bs := bs) (t := t) (k := k) (by simp [decI, h1])
    rw [d1, d2, d3]
    clear d1 d2 d3
    go_enter Try.func106, Try.ntmps106
    go_wp2_with (go_at_call 94; refine (specInRange_ok _ _ _ _).mono ?_; rintro e w' ⟨rfl, rfl⟩; rw [h1])
    go_ret3
    exact ⟨_, _, rfl, O0.out, E0.out⟩
  cases h2 : inR t 0 bs.length
  · obtain ⟨d1, d2, d3⟩ := di_none (bs := bs) (t := t) (k := k) (by simp [decI, h2])
    rw [d1, d2, d3]
    clear d1 d2 d3
    go_enter Try.func106, Try.ntmps106
    go_wp2_with (go_at_call 94; refine (specInRange_ok _ _ _ _).mono ?_; rintro e w' ⟨rfl, rfl⟩; (first | rw [h1] | rw [h2]))
    go_ret3
    exact ⟨_, _, rfl, O0.out, E0.out⟩
  obtain ⟨k0, k1⟩ := inR_true.1 h1
  obtain ⟨t0, t1⟩ := inR_true.1 h2
  obtain ⟨k, rfl⟩ := Int.eq_ofNat_of_zero_le k0
  obtain ⟨t, rfl⟩ := Int.eq_ofNat_of_zero_le t0
  have HD : Hid (decI bs (t : Int) (k : Int) = rdTo bs t k) := by simp [decI, h1, h2, Hid]
  have HB := Lib.hid hb
  clear k0 t0 hb
  go_enter Try.func106, Try.ntmps106
  go_wp2_with (go_at_call 94; refine (specInRange_ok _ _ _ _).mono ?_; rintro e w' ⟨rfl, rfl⟩; (first | rw [h1] | rw [h2]))
  go_loopw [1, 9, 10] (fun s v i wr => ∃ (j e : Nat) (a1 : Option Addr) (c1 : Nat) (l : List Int), j ≤ k ∧ i = .int .i64 j ∧ s = .int .i64 (e : Nat) ∧ v = .slice a1 l.length c1 ∧ Hid (rdTo bs t j = some (l, e)) ∧ e ≤ bs.length ∧ l.length ≤ j ∧ OwnI wr w.heap.size a1 c1 l ∧ Ext w wr) (fun _ _ i _ => k - (intOf i).toNat)
  case atStart => exact ⟨0, t, _, _, [], Nat.zero_le _, rfl, rfl, rfl, rfl, by omega, Nat.le_refl _, O0.out, E0.out⟩
  case round =>
    clear O0 E0
    obtain ⟨j, e, a1, c1, l, hj, rfl, rfl, rfl, hrd, hel, hll, ho, he⟩ := hrel
    by_cases hlt : j < k
    · have CC := specReadUvarint_ok a c bs e wr (h.ext he) HB.out hl (by omega)
      cases hu : rdU bs e with
      | none =>
        rw [rdV_none hu] at CC
        have C1 := Lib.hid CC
        obtain ⟨d1, d2, d3⟩ := di_none (bs := bs) (t := (t : Int)) (k := (k : Int)) (by rw [HD.out]; exact rdTo_none (rdTo_fail hrd.out hu) (by omega))
        have D := Lib.hid (And.intro d1 (And.intro d2 d3))
        clear CC hu d1 d2 d3
        go_wp2_with (go_at_call 111; (with_reducible refine C1.out.mono ?_); rintro e w' ⟨rfl, rfl⟩)
        go_ret3
        rw [D.out.1, D.out.2.1, D.out.2.2]
        exact ⟨_, _, rfl, (OwnI.new wr wr.heap.size [] (Nat.le_refl _) (by simp)).more he.size_le, he.alloc _⟩
      | some p =>
        obtain ⟨n, q⟩ := p
        rw [rdV_some hu] at CC
        have C1 := Lib.hid CC
        obtain ⟨u1, u2, u3⟩ := rdU_le HB.out hel hu
        have hrd' := Lib.hid (rdTo_succ hrd.out hu)
        obtain ⟨l2, hl2⟩ : ∃ l2, Hid (l2 = l ++ [n]) := ⟨_, rfl⟩
        rw [← hl2.out] at hrd'
        have hl3 : l2.length ≤ j + 1 := by rw [hl2.out, List.length_append, List.length_singleton]; omega
        clear CC hu hrd
        go_wp2_with (first
          | (go_at_call 111; (with_reducible refine C1.out.mono ?_); rintro e w' ⟨rfl, rfl⟩)
          | (at_builtin; refine wpList_appI _ rfl _ _ rfl w.heap.size _ _ l rfl (ho.ext ((Ext.refl wr).alloc _)) _ _ [n] rfl (Vals.new wr [.int .i64 n] _) l2 hl2.out (by simp; omega) (by have := he.size_le; simp; omega) ?_))
        intro a3 c3 w3 o3 g3 _
        have e3 := (he.alloc (.cells (I [n]).toArray 3)).grown g3 (fun k hk => (ho.block k hk).1)
        clear g3 ho he
        go_wp2_with fail
        go_roundw
        case rel => exact ⟨j + 1, e + q, a3, c3, l2, by omega, by go_num, rfl, rfl, hrd', u1, hl3, o3, e3⟩
        case measure => simp [intOf]; omega
    · obtain rfl : j = k := by omega
      obtain ⟨d1, d2, d3⟩ := di_some (bs := bs) (t := (t : Int)) (k := (j : Int)) (by rw [HD.out]; exact hrd.out)
      have D := Lib.hid (And.intro d1 (And.intro d2 d3))
      clear d1 d2 d3
      go_wp2_with fail
      go_ret3
      rw [D.out.1, D.out.2.1, D.out.2.2]
      exact ⟨a1, c1, rfl, ho, he⟩

theorem implEqualBytes_ok (a b : Option Addr) (c d : Nat) (xs ys : List Int) (w : World) (h : Vals w a (Y xs)) (h' : Vals w b (Y ys)) (hl : xs.length ≤ 1099511627776) :
    Calls Try.prog 109 #[.slice a xs.length c, .slice b ys.length d] w (Quiet w (.bool (decide (xs = ys)))) := by
  go_enter Try.func109, Try.ntmps109
  go_wp2_with fail
  refine (slicesEqualB_ok _ _ _ _ _ _ _ h h' hl).mono ?_
  rintro e w1 ⟨rfl, hd⟩
  go_wp2_with fail
  go_ret
  exact ⟨rfl, hd⟩

theorem diL_len (bs : List Int) (t k : Int) (hb : AllB bs) : (diL bs t k).length ≤ 100 := by
  unfold diL decI
  split
  · simp
  · rename_i p h
    split at h
    · rename_i hr
      obtain ⟨l, e⟩ := p
      have := (rdTo_sound hb _ _ _ h).1
      simp only [Bool.and_eq_true] at hr
      have := inR_true.1 hr.1
      simp only
      omega
    · cases h

theorem OwnI.head3 {w : World} {B : Nat} {a : Option Addr} {c : Nat} {x y z : Int} (h : OwnI w B a c [x, y, z]) : ∃ g, a = some ⟨g, 0, none⟩ ∧ B ≤ g ∧ g < w.heap.size ∧ w.cell? ⟨g, 0, none⟩ = some (.int .i64 x) ∧ w.cell? ⟨g, 1, none⟩ = some (.int .i64 y) ∧ w.cell? ⟨g, 2, none⟩ = some (.int .i64 z) := by
  obtain ⟨g, rfl, g1, g2, g3⟩ := (OI.of h).form (by simp)
  exact ⟨g, rfl, g1, g3, (OI.of h).cellAt (i := 0) rfl, (OI.of h).cellAt (i := 1) rfl, (OI.of h).cellAt (i := 2) rfl⟩
theorem OwnI.head2 {w : World} {B : Nat} {a : Option Addr} {c : Nat} {x y : Int} (h : OwnI w B a c [x, y]) : ∃ g, a = some ⟨g, 0, none⟩ ∧ B ≤ g ∧ g < w.heap.size ∧ w.cell? ⟨g, 0, none⟩ = some (.int .i64 x) ∧ w.cell? ⟨g, 1, none⟩ = some (.int .i64 y) := by
  obtain ⟨g, rfl, g1, g2, g3⟩ := (OI.of h).form (by simp)
  exact ⟨g, rfl, g1, g3, (OI.of h).cellAt (i := 0) rfl, (OI.of h).cellAt (i := 1) rfl⟩

theorem decI_head {bs : List Int} (k : Nat) (hk : k ≤ 100) : decI bs 0 (k : Int) = rdTo bs 0 k := by
  unfold decI
  rw [inR_true.2 ⟨by omega, by omega⟩, inR_true.2 ⟨by omega, by omega⟩]
  simp
theorem decI_in {bs : List Int} {t : Nat} {k : Int} (ht : t ≤ bs.length) (hk : 0 ≤ k) (hk2 : k ≤ 100) : decI bs (t : Int) k = rdTo bs t k.toNat := by
  unfold decI
  rw [inR_true.2 ⟨by omega, by omega⟩, inR_true.2 ⟨by omega, by omega⟩]
  simp

set_option maxHeartbeats 4000000 in
set_option maxRecDepth 100000 in
theorem specDecodePacket_a (a : Option Addr) (c : Nat) (bs : List Int) (x y z : Int) (e : Nat) (xs ys : List Int) (e2 e3 : Int) (w : World) (h : Vals w a (Y bs)) (hl : bs.length ≤ 1048576) (hx1 : xs.length ≤ 100) (hy1 : ys.length ≤ 100) (ok2 : Bool)
    (C0 : Hid (∀ W, Ext w W → Calls Try.prog 106 #[.slice a bs.length c, .int .i64 0, .int .i64 3] W (NewI3 W [x, y, z] (e : Int) true)))
    (C1 : Hid (∀ W, Ext w W → Calls Try.prog 106 #[.slice a bs.length c, .int .i64 (e : Int), .int .i64 y] W (NewI3 W xs e2 false)))
    (C2 : Hid (∀ W, Ext w W → Calls Try.prog 106 #[.slice a bs.length c, .int .i64 e2, .int .i64 z] W (NewI3 W ys e3 ok2))) :
    Calls Try.prog 41 #[.slice a bs.length c] w (NewPkF w 0 [] [] false) := by
  have H := Lib.hid h
  clear h
  go_enter Try.func41, Try.ntmps41
  go_wp2_with fail
  (with_reducible refine (C0.out _ ((Ext.refl w).alloc _)).mono ?_)
  rintro e w1 ⟨a1, c1, rfl, o1, e1⟩
  have e01 := ((Ext.refl w).alloc _).trans e1
  obtain ⟨g, rfl, g1, g2, p0, p1, p2⟩ := o1.head3
  have z1 := e1.size_le
  simp at z1 g1
  obtain ⟨k1, f1⟩ := e1.look
  simp at k1 f1
  clear o1
  go_wp2_with fail
  (with_reducible refine (C1.out _ e01).mono ?_)
  rintro e w2 ⟨a2, c2, rfl, o2, e2'⟩
  have e02 := e01.trans e2'
  replace p0 := e2'.cell p0
  replace p2 := e2'.cell p2
  have z2 := e2'.size_le
  clear p1
  go_wp2_with fail
  (with_reducible refine (C2.out _ e02).mono ?_)
  rintro e w3 ⟨a3, c3, rfl, o3, e3'⟩
  have e03 := e02.trans e3'
  replace p0 := e3'.cell p0
  have z3 := e3'.size_le
  have o2' := o2.ext e3'
  have e13 := (e1.trans e2').trans e3'
  obtain ⟨k3, f3⟩ := e13.look
  simp at k3 f3
  have y9 : w.heap.size < w3.heap.size := by omega
  have n9 : ¬ w.heap.size = w3.heap.size := by omega
  have hap : Apart a2 a3 := fun k h1 h2 => by
    have := (o2.block k h1).2
    have := (o3.block k h2).1
    omega
  have C3 : Hid (∀ W, Ext w3 W → Calls Try.prog 107 #[pkV x a2 c2 xs a3 c3 ys] W (Gives W (.bool (ownPk x xs ys)))) := fun W hW => l11Own_ok x a2 c2 xs a3 c3 ys W (o2'.vals.ext hW) (o3.vals.ext hW) (by omega) (by omega)
  clear k1 f1 p2
  go_wp2_with (go_at_call 107; (with_reducible refine (C3.out _ ((Ext.refl w3).alloc _)).mono ?_); rintro e w4 ⟨rfl, e4⟩; obtain ⟨k4, f4⟩ := (e13.trans (((Ext.refl w3).alloc _).trans e4)).look; have y0 := e4.cell (p := ⟨w3.heap.size, 0, none⟩) (v := .int .i64 x) (by simp); have y1 := e4.cell (p := ⟨w3.heap.size, 1, none⟩) (v := .slice a2 xs.length c2) (by simp); have y2 := e4.cell (p := ⟨w3.heap.size, 2, none⟩) (v := .slice a3 ys.length c3) (by simp); have z4 := e4.size_le; simp at k4 f4 z4)
  first
    | refine bodyPost_ret (v := .tuple #[pkV 0 none 0 [] none 0 [], .bool false]) (by simp only [results, Try.results41]; go_simp) rfl ⟨none, 0, none, 0, rfl, OwnI.nil _ _, OwnI.nil _ _, fun k hk => by simp [blockOf] at hk, ?_⟩
      first
        | exact (((e03.setCell (by simp) _).setCell (by simp) _).setCell (by simp) _).alloc _
        | exact (((e03.alloc _).setCell (by simp) _).setCell (by simp) _).setCell (by simp) _
        | exact (((((e03.alloc _).trans e4)).setCell (by simp) _).setCell (by simp) _).setCell (by simp) _
    | refine bodyPost_ret (v := .tuple #[pkV x a2 c2 xs a3 c3 ys, .bool true]) (by simp only [results, Try.results41]; go_simp) rfl ⟨a2, c2, a3, c3, rfl, ?_, ?_, hap, ?_⟩
      · exact ((((o2'.ext (((Ext.refl w3).alloc _).trans e4)).setCell (by simp; omega) _).setCell (by simp; omega) _).setCell (by simp; omega) _).more (by omega)
      · exact ((((o3.ext (((Ext.refl w3).alloc _).trans e4)).setCell (by simp; omega) _).setCell (by simp; omega) _).setCell (by simp; omega) _).more (by omega)
      · exact (((((e03.alloc _).trans e4)).setCell (by simp) _).setCell (by simp) _).setCell (by simp) _

set_option maxHeartbeats 4000000 in
set_option maxRecDepth 100000 in
theorem specDecodePacket_b (a : Option Addr) (c : Nat) (bs : List Int) (x y z : Int) (e : Nat) (xs ys : List Int) (e2 e3 : Int) (w : World) (h : Vals w a (Y bs)) (hl : bs.length ≤ 1048576) (hx1 : xs.length ≤ 100) (hy1 : ys.length ≤ 100) (hx : 0 = 0)
    (C0 : Hid (∀ W, Ext w W → Calls Try.prog 106 #[.slice a bs.length c, .int .i64 0, .int .i64 3] W (NewI3 W [x, y, z] (e : Int) true)))
    (C1 : Hid (∀ W, Ext w W → Calls Try.prog 106 #[.slice a bs.length c, .int .i64 (e : Int), .int .i64 y] W (NewI3 W xs e2 true)))
    (C2 : Hid (∀ W, Ext w W → Calls Try.prog 106 #[.slice a bs.length c, .int .i64 e2, .int .i64 z] W (NewI3 W ys e3 false))) :
    Calls Try.prog 41 #[.slice a bs.length c] w (NewPkF w 0 [] [] false) := by
  have H := Lib.hid h
  clear h
  go_enter Try.func41, Try.ntmps41
  go_wp2_with fail
  (with_reducible refine (C0.out _ ((Ext.refl w).alloc _)).mono ?_)
  rintro e w1 ⟨a1, c1, rfl, o1, e1⟩
  have e01 := ((Ext.refl w).alloc _).trans e1
  obtain ⟨g, rfl, g1, g2, p0, p1, p2⟩ := o1.head3
  have z1 := e1.size_le
  simp at z1 g1
  obtain ⟨k1, f1⟩ := e1.look
  simp at k1 f1
  clear o1
  go_wp2_with fail
  (with_reducible refine (C1.out _ e01).mono ?_)
  rintro e w2 ⟨a2, c2, rfl, o2, e2'⟩
  have e02 := e01.trans e2'
  replace p0 := e2'.cell p0
  replace p2 := e2'.cell p2
  have z2 := e2'.size_le
  clear p1
  go_wp2_with fail
  (with_reducible refine (C2.out _ e02).mono ?_)
  rintro e w3 ⟨a3, c3, rfl, o3, e3'⟩
  have e03 := e02.trans e3'
  replace p0 := e3'.cell p0
  have z3 := e3'.size_le
  have o2' := o2.ext e3'
  have e13 := (e1.trans e2').trans e3'
  obtain ⟨k3, f3⟩ := e13.look
  simp at k3 f3
  have y9 : w.heap.size < w3.heap.size := by omega
  have n9 : ¬ w.heap.size = w3.heap.size := by omega
  have hap : Apart a2 a3 := fun k h1 h2 => by
    have := (o2.block k h1).2
    have := (o3.block k h2).1
    omega
  have C3 : Hid (∀ W, Ext w3 W → Calls Try.prog 107 #[pkV x a2 c2 xs a3 c3 ys] W (Gives W (.bool (ownPk x xs ys)))) := fun W hW => l11Own_ok x a2 c2 xs a3 c3 ys W (o2'.vals.ext hW) (o3.vals.ext hW) (by omega) (by omega)
  clear k1 f1 p2
  go_wp2_with (go_at_call 107; (with_reducible refine (C3.out _ ((Ext.refl w3).alloc _)).mono ?_); rintro e w4 ⟨rfl, e4⟩; obtain ⟨k4, f4⟩ := (e13.trans (((Ext.refl w3).alloc _).trans e4)).look; have y0 := e4.cell (p := ⟨w3.heap.size, 0, none⟩) (v := .int .i64 x) (by simp); have y1 := e4.cell (p := ⟨w3.heap.size, 1, none⟩) (v := .slice a2 xs.length c2) (by simp); have y2 := e4.cell (p := ⟨w3.heap.size, 2, none⟩) (v := .slice a3 ys.length c3) (by simp); have z4 := e4.size_le; simp at k4 f4 z4)
  first
    | refine bodyPost_ret (v := .tuple #[pkV 0 none 0 [] none 0 [], .bool false]) (by simp only [results, Try.results41]; go_simp) rfl ⟨none, 0, none, 0, rfl, OwnI.nil _ _, OwnI.nil _ _, fun k hk => by simp [blockOf] at hk, ?_⟩
      first
        | exact (((e03.setCell (by simp) _).setCell (by simp) _).setCell (by simp) _).alloc _
        | exact (((e03.alloc _).setCell (by simp) _).setCell (by simp) _).setCell (by simp) _
        | exact (((((e03.alloc _).trans e4)).setCell (by simp) _).setCell (by simp) _).setCell (by simp) _
    | refine bodyPost_ret (v := .tuple #[pkV x a2 c2 xs a3 c3 ys, .bool true]) (by simp only [results, Try.results41]; go_simp) rfl ⟨a2, c2, a3, c3, rfl, ?_, ?_, hap, ?_⟩
      · exact ((((o2'.ext (((Ext.refl w3).alloc _).trans e4)).setCell (by simp; omega) _).setCell (by simp; omega) _).setCell (by simp; omega) _).more (by omega)
      · exact ((((o3.ext (((Ext.refl w3).alloc _).trans e4)).setCell (by simp; omega) _).setCell (by simp; omega) _).setCell (by simp; omega) _).more (by omega)
      · exact (((((e03.alloc _).trans e4)).setCell (by simp) _).setCell (by simp) _).setCell (by simp) _

set_option maxHeartbeats 4000000 in
set_option maxRecDepth 100000 in
theorem specDecodePacket_c (a : Option Addr) (c : Nat) (bs : List Int) (x y z : Int) (e : Nat) (xs ys : List Int) (e2 e3 : Int) (w : World) (h : Vals w a (Y bs)) (hl : bs.length ≤ 1048576) (hx1 : xs.length ≤ 100) (hy1 : ys.length ≤ 100) (hne : (e3 != (bs.length : Int)) = true)
    (C0 : Hid (∀ W, Ext w W → Calls Try.prog 106 #[.slice a bs.length c, .int .i64 0, .int .i64 3] W (NewI3 W [x, y, z] (e : Int) true)))
    (C1 : Hid (∀ W, Ext w W → Calls Try.prog 106 #[.slice a bs.length c, .int .i64 (e : Int), .int .i64 y] W (NewI3 W xs e2 true)))
    (C2 : Hid (∀ W, Ext w W → Calls Try.prog 106 #[.slice a bs.length c, .int .i64 e2, .int .i64 z] W (NewI3 W ys e3 true))) :
    Calls Try.prog 41 #[.slice a bs.length c] w (NewPkF w 0 [] [] false) := by
  have H := Lib.hid h
  clear h
  go_enter Try.func41, Try.ntmps41
  go_wp2_with fail
  (with_reducible refine (C0.out _ ((Ext.refl w).alloc _)).mono ?_)
  rintro e w1 ⟨a1, c1, rfl, o1, e1⟩
  have e01 := ((Ext.refl w).alloc _).trans e1
  obtain ⟨g, rfl, g1, g2, p0, p1, p2⟩ := o1.head3
  have z1 := e1.size_le
  simp at z1 g1
  obtain ⟨k1, f1⟩ := e1.look
  simp at k1 f1
  clear o1
  go_wp2_with fail
  (with_reducible refine (C1.out _ e01).mono ?_)
  rintro e w2 ⟨a2, c2, rfl, o2, e2'⟩
  have e02 := e01.trans e2'
  replace p0 := e2'.cell p0
  replace p2 := e2'.cell p2
  have z2 := e2'.size_le
  clear p1
  go_wp2_with fail
  (with_reducible refine (C2.out _ e02).mono ?_)
  rintro e w3 ⟨a3, c3, rfl, o3, e3'⟩
  have e03 := e02.trans e3'
  replace p0 := e3'.cell p0
  have z3 := e3'.size_le
  have o2' := o2.ext e3'
  have e13 := (e1.trans e2').trans e3'
  obtain ⟨k3, f3⟩ := e13.look
  simp at k3 f3
  have y9 : w.heap.size < w3.heap.size := by omega
  have n9 : ¬ w.heap.size = w3.heap.size := by omega
  have hap : Apart a2 a3 := fun k h1 h2 => by
    have := (o2.block k h1).2
    have := (o3.block k h2).1
    omega
  have C3 : Hid (∀ W, Ext w3 W → Calls Try.prog 107 #[pkV x a2 c2 xs a3 c3 ys] W (Gives W (.bool (ownPk x xs ys)))) := fun W hW => l11Own_ok x a2 c2 xs a3 c3 ys W (o2'.vals.ext hW) (o3.vals.ext hW) (by omega) (by omega)
  clear k1 f1 p2
  go_wp2_with (go_at_call 107; (with_reducible refine (C3.out _ ((Ext.refl w3).alloc _)).mono ?_); rintro e w4 ⟨rfl, e4⟩; obtain ⟨k4, f4⟩ := (e13.trans (((Ext.refl w3).alloc _).trans e4)).look; have y0 := e4.cell (p := ⟨w3.heap.size, 0, none⟩) (v := .int .i64 x) (by simp); have y1 := e4.cell (p := ⟨w3.heap.size, 1, none⟩) (v := .slice a2 xs.length c2) (by simp); have y2 := e4.cell (p := ⟨w3.heap.size, 2, none⟩) (v := .slice a3 ys.length c3) (by simp); have z4 := e4.size_le; simp at k4 f4 z4)
  first
    | refine bodyPost_ret (v := .tuple #[pkV 0 none 0 [] none 0 [], .bool false]) (by simp only [results, Try.results41]; go_simp) rfl ⟨none, 0, none, 0, rfl, OwnI.nil _ _, OwnI.nil _ _, fun k hk => by simp [blockOf] at hk, ?_⟩
      first
        | exact (((e03.setCell (by simp) _).setCell (by simp) _).setCell (by simp) _).alloc _
        | exact (((e03.alloc _).setCell (by simp) _).setCell (by simp) _).setCell (by simp) _
        | exact (((((e03.alloc _).trans e4)).setCell (by simp) _).setCell (by simp) _).setCell (by simp) _
    | refine bodyPost_ret (v := .tuple #[pkV x a2 c2 xs a3 c3 ys, .bool true]) (by simp only [results, Try.results41]; go_simp) rfl ⟨a2, c2, a3, c3, rfl, ?_, ?_, hap, ?_⟩
      · exact ((((o2'.ext (((Ext.refl w3).alloc _).trans e4)).setCell (by simp; omega) _).setCell (by simp; omega) _).setCell (by simp; omega) _).more (by omega)
      · exact ((((o3.ext (((Ext.refl w3).alloc _).trans e4)).setCell (by simp; omega) _).setCell (by simp; omega) _).setCell (by simp; omega) _).more (by omega)
      · exact (((((e03.alloc _).trans e4)).setCell (by simp) _).setCell (by simp) _).setCell (by simp) _

set_option maxHeartbeats 4000000 in
set_option maxRecDepth 100000 in
theorem specDecodePacket_d (a : Option Addr) (c : Nat) (bs : List Int) (x y z : Int) (e : Nat) (xs ys : List Int) (e2 e3 : Int) (w : World) (h : Vals w a (Y bs)) (hl : bs.length ≤ 1048576) (hx1 : xs.length ≤ 100) (hy1 : ys.length ≤ 100) (hne : (e3 != (bs.length : Int)) = false) (hown : ownPk x xs ys = false)
    (C0 : Hid (∀ W, Ext w W → Calls Try.prog 106 #[.slice a bs.length c, .int .i64 0, .int .i64 3] W (NewI3 W [x, y, z] (e : Int) true)))
    (C1 : Hid (∀ W, Ext w W → Calls Try.prog 106 #[.slice a bs.length c, .int .i64 (e : Int), .int .i64 y] W (NewI3 W xs e2 true)))
    (C2 : Hid (∀ W, Ext w W → Calls Try.prog 106 #[.slice a bs.length c, .int .i64 e2, .int .i64 z] W (NewI3 W ys e3 true))) :
    Calls Try.prog 41 #[.slice a bs.length c] w (NewPkF w 0 [] [] false) := by
  have H := Lib.hid h
  clear h
  go_enter Try.func41, Try.ntmps41
  go_wp2_with fail
  (with_reducible refine (C0.out _ ((Ext.refl w).alloc _)).mono ?_)
  rintro e w1 ⟨a1, c1, rfl, o1, e1⟩
  have e01 := ((Ext.refl w).alloc _).trans e1
  obtain ⟨g, rfl, g1, g2, p0, p1, p2⟩ := o1.head3
  have z1 := e1.size_le
  simp at z1 g1
  obtain ⟨k1, f1⟩ := e1.look
  simp at k1 f1
  clear o1
  go_wp2_with fail
  (with_reducible refine (C1.out _ e01).mono ?_)
  rintro e w2 ⟨a2, c2, rfl, o2, e2'⟩
  have e02 := e01.trans e2'
  replace p0 := e2'.cell p0
  replace p2 := e2'.cell p2
  have z2 := e2'.size_le
  clear p1
  go_wp2_with fail
  (with_reducible refine (C2.out _ e02).mono ?_)
  rintro e w3 ⟨a3, c3, rfl, o3, e3'⟩
  have e03 := e02.trans e3'
  replace p0 := e3'.cell p0
  have z3 := e3'.size_le
  have o2' := o2.ext e3'
  have e13 := (e1.trans e2').trans e3'
  obtain ⟨k3, f3⟩ := e13.look
  simp at k3 f3
  have y9 : w.heap.size < w3.heap.size := by omega
  have n9 : ¬ w.heap.size = w3.heap.size := by omega
  have hap : Apart a2 a3 := fun k h1 h2 => by
    have := (o2.block k h1).2
    have := (o3.block k h2).1
    omega
  have C3 : Hid (∀ W, Ext w3 W → Calls Try.prog 107 #[pkV x a2 c2 xs a3 c3 ys] W (Gives W (.bool (ownPk x xs ys)))) := fun W hW => l11Own_ok x a2 c2 xs a3 c3 ys W (o2'.vals.ext hW) (o3.vals.ext hW) (by omega) (by omega)
  clear k1 f1 p2
  go_wp2_with (go_at_call 107; (with_reducible refine (C3.out _ ((Ext.refl w3).alloc _)).mono ?_); rintro e w4 ⟨rfl, e4⟩; obtain ⟨k4, f4⟩ := (e13.trans (((Ext.refl w3).alloc _).trans e4)).look; have y0 := e4.cell (p := ⟨w3.heap.size, 0, none⟩) (v := .int .i64 x) (by simp); have y1 := e4.cell (p := ⟨w3.heap.size, 1, none⟩) (v := .slice a2 xs.length c2) (by simp); have y2 := e4.cell (p := ⟨w3.heap.size, 2, none⟩) (v := .slice a3 ys.length c3) (by simp); have z4 := e4.size_le; simp at k4 f4 z4)
  first
    | refine bodyPost_ret (v := .tuple #[pkV 0 none 0 [] none 0 [], .bool false]) (by simp only [results, Try.results41]; go_simp) rfl ⟨none, 0, none, 0, rfl, OwnI.nil _ _, OwnI.nil _ _, fun k hk => by simp [blockOf] at hk, ?_⟩
      first
        | exact (((e03.setCell (by simp) _).setCell (by simp) _).setCell (by simp) _).alloc _
        | exact (((e03.alloc _).setCell (by simp) _).setCell (by simp) _).setCell (by simp) _
        | exact (((((e03.alloc _).trans e4)).setCell (by simp) _).setCell (by simp) _).setCell (by simp) _
    | refine bodyPost_ret (v := .tuple #[pkV x a2 c2 xs a3 c3 ys, .bool true]) (by simp only [results, Try.results41]; go_simp) rfl ⟨a2, c2, a3, c3, rfl, ?_, ?_, hap, ?_⟩
      · exact ((((o2'.ext (((Ext.refl w3).alloc _).trans e4)).setCell (by simp; omega) _).setCell (by simp; omega) _).setCell (by simp; omega) _).more (by omega)
      · exact ((((o3.ext (((Ext.refl w3).alloc _).trans e4)).setCell (by simp; omega) _).setCell (by simp; omega) _).setCell (by simp; omega) _).more (by omega)
      · exact (((((e03.alloc _).trans e4)).setCell (by simp) _).setCell (by simp) _).setCell (by simp) _

set_option maxHeartbeats 4000000 in
set_option maxRecDepth 100000 in
theorem specDecodePacket_e (a : Option Addr) (c : Nat) (bs : List Int) (x y z : Int) (e : Nat) (xs ys : List Int) (e2 e3 : Int) (w : World) (h : Vals w a (Y bs)) (hl : bs.length ≤ 1048576) (hx1 : xs.length ≤ 100) (hy1 : ys.length ≤ 100) (hne : (e3 != (bs.length : Int)) = false) (hown : ownPk x xs ys = true)
    (C0 : Hid (∀ W, Ext w W → Calls Try.prog 106 #[.slice a bs.length c, .int .i64 0, .int .i64 3] W (NewI3 W [x, y, z] (e : Int) true)))
    (C1 : Hid (∀ W, Ext w W → Calls Try.prog 106 #[.slice a bs.length c, .int .i64 (e : Int), .int .i64 y] W (NewI3 W xs e2 true)))
    (C2 : Hid (∀ W, Ext w W → Calls Try.prog 106 #[.slice a bs.length c, .int .i64 e2, .int .i64 z] W (NewI3 W ys e3 true))) :
    Calls Try.prog 41 #[.slice a bs.length c] w (NewPkF w x xs ys true) := by
  have H := Lib.hid h
  clear h
  go_enter Try.func41, Try.ntmps41
  go_wp2_with fail
  (with_reducible refine (C0.out _ ((Ext.refl w).alloc _)).mono ?_)
  rintro e w1 ⟨a1, c1, rfl, o1, e1⟩
  have e01 := ((Ext.refl w).alloc _).trans e1
  obtain ⟨g, rfl, g1, g2, p0, p1, p2⟩ := o1.head3
  have z1 := e1.size_le
  simp at z1 g1
  obtain ⟨k1, f1⟩ := e1.look
  simp at k1 f1
  clear o1
  go_wp2_with fail
  (with_reducible refine (C1.out _ e01).mono ?_)
  rintro e w2 ⟨a2, c2, rfl, o2, e2'⟩
  have e02 := e01.trans e2'
  replace p0 := e2'.cell p0
  replace p2 := e2'.cell p2
  have z2 := e2'.size_le
  clear p1
  go_wp2_with fail
  (with_reducible refine (C2.out _ e02).mono ?_)
  rintro e w3 ⟨a3, c3, rfl, o3, e3'⟩
  have e03 := e02.trans e3'
  replace p0 := e3'.cell p0
  have z3 := e3'.size_le
  have o2' := o2.ext e3'
  have e13 := (e1.trans e2').trans e3'
  obtain ⟨k3, f3⟩ := e13.look
  simp at k3 f3
  have y9 : w.heap.size < w3.heap.size := by omega
  have n9 : ¬ w.heap.size = w3.heap.size := by omega
  have hap : Apart a2 a3 := fun k h1 h2 => by
    have := (o2.block k h1).2
    have := (o3.block k h2).1
    omega
  have C3 : Hid (∀ W, Ext w3 W → Calls Try.prog 107 #[pkV x a2 c2 xs a3 c3 ys] W (Gives W (.bool (ownPk x xs ys)))) := fun W hW => l11Own_ok x a2 c2 xs a3 c3 ys W (o2'.vals.ext hW) (o3.vals.ext hW) (by omega) (by omega)
  clear k1 f1 p2
  go_wp2_with (go_at_call 107; (with_reducible refine (C3.out _ ((Ext.refl w3).alloc _)).mono ?_); rintro e w4 ⟨rfl, e4⟩; obtain ⟨k4, f4⟩ := (e13.trans (((Ext.refl w3).alloc _).trans e4)).look; have y0 := e4.cell (p := ⟨w3.heap.size, 0, none⟩) (v := .int .i64 x) (by simp); have y1 := e4.cell (p := ⟨w3.heap.size, 1, none⟩) (v := .slice a2 xs.length c2) (by simp); have y2 := e4.cell (p := ⟨w3.heap.size, 2, none⟩) (v := .slice a3 ys.length c3) (by simp); have z4 := e4.size_le; simp at k4 f4 z4)
  first
    | refine bodyPost_ret (v := .tuple #[pkV 0 none 0 [] none 0 [], .bool false]) (by simp only [results, Try.results41]; go_simp) rfl ⟨none, 0, none, 0, rfl, OwnI.nil _ _, OwnI.nil _ _, fun k hk => by simp [blockOf] at hk, ?_⟩
      first
        | exact (((e03.setCell (by simp) _).setCell (by simp) _).setCell (by simp) _).alloc _
        | exact (((e03.alloc _).setCell (by simp) _).setCell (by simp) _).setCell (by simp) _
        | exact (((((e03.alloc _).trans e4)).setCell (by simp) _).setCell (by simp) _).setCell (by simp) _
    | refine bodyPost_ret (v := .tuple #[pkV x a2 c2 xs a3 c3 ys, .bool true]) (by simp only [results, Try.results41]; go_simp) rfl ⟨a2, c2, a3, c3, rfl, ?_, ?_, hap, ?_⟩
      · exact ((((o2'.ext (((Ext.refl w3).alloc _).trans e4)).setCell (by simp; omega) _).setCell (by simp; omega) _).setCell (by simp; omega) _).more (by omega)
      · exact ((((o3.ext (((Ext.refl w3).alloc _).trans e4)).setCell (by simp; omega) _).setCell (by simp; omega) _).setCell (by simp; omega) _).more (by omega)
      · exact (((((e03.alloc _).trans e4)).setCell (by simp) _).setCell (by simp) _).setCell (by simp) _

set_option maxHeartbeats 4000000 in
set_option maxRecDepth 100000 in
theorem implDecodePacket_n (a : Option Addr) (c : Nat) (bs : List Int) (w : World)
    (C0 : Hid (∀ W, Ext w W → Calls Try.prog 108 #[.slice a bs.length c, .int .i64 0, .int .i64 3] W (NewI3 W [] 0 false))) :
    Calls Try.prog 42 #[.slice a bs.length c] w (NewPkF w 0 [] [] false) := by
  go_enter Try.func42, Try.ntmps42
  go_wp2_with fail
  (with_reducible refine (C0.out _ ((Ext.refl w).alloc _)).mono ?_)
  rintro e w1 ⟨a1, c1, rfl, o1, e1⟩
  have e01 := ((Ext.refl w).alloc _).trans e1
  have z1 := e1.size_le
  simp at z1
  obtain ⟨k1, f1⟩ := e1.look
  simp at k1 f1
  clear o1
  go_wp2_with fail
  refine bodyPost_ret (v := .tuple #[pkV 0 none 0 [] none 0 [], .bool false]) (by simp only [results, Try.results42]; go_simp) rfl ⟨none, 0, none, 0, rfl, OwnI.nil _ _, OwnI.nil _ _, fun k hk => by simp [blockOf] at hk, ?_⟩
  exact ((e01.setCell (by simp) _).setCell (by simp) _).setCell (by simp) _

set_option maxHeartbeats 4000000 in
set_option maxRecDepth 100000 in
theorem specDecodePacket_n (a : Option Addr) (c : Nat) (bs : List Int) (w : World)
    (C0 : Hid (∀ W, Ext w W → Calls Try.prog 106 #[.slice a bs.length c, .int .i64 0, .int .i64 3] W (NewI3 W [] 0 false))) :
    Calls Try.prog 41 #[.slice a bs.length c] w (NewPkF w 0 [] [] false) := by
  go_enter Try.func41, Try.ntmps41
  go_wp2_with fail
  (with_reducible refine (C0.out _ ((Ext.refl w).alloc _)).mono ?_)
  rintro e w1 ⟨a1, c1, rfl, o1, e1⟩
  have e01 := ((Ext.refl w).alloc _).trans e1
  have z1 := e1.size_le
  simp at z1
  obtain ⟨k1, f1⟩ := e1.look
  simp at k1 f1
  clear o1
  go_wp2_with fail
  refine bodyPost_ret (v := .tuple #[pkV 0 none 0 [] none 0 [], .bool false]) (by simp only [results, Try.results41]; go_simp) rfl ⟨none, 0, none, 0, rfl, OwnI.nil _ _, OwnI.nil _ _, fun k hk => by simp [blockOf] at hk, ?_⟩
  exact ((e01.setCell (by simp) _).setCell (by simp) _).setCell (by simp) _

theorem rdTo_three {b : List Int} {t e : Nat} {l : List Int} (hb : AllB b) (h : rdTo b t 3 = some (l, e)) : ∃ x y z, l = [x, y, z] ∧ 0 ≤ x ∧ x ≤ 1000000000000 ∧ 0 ≤ y ∧ y ≤ 1000000000000 ∧ 0 ≤ z ∧ z ≤ 1000000000000 := by
  obtain ⟨h1, h2, _⟩ := rdTo_sound hb _ _ _ h
  match l, h1 with
  | [x, y, z], _ =>
    have a1 := inR_true.1 (h2 x (by simp))
    have a2 := inR_true.1 (h2 y (by simp))
    have a3 := inR_true.1 (h2 z (by simp))
    exact ⟨x, y, z, rfl, a1.1, a1.2, a2.1, a2.2, a3.1, a3.2⟩

theorem specDecodePacket_ok (a : Option Addr) (c : Nat) (bs : List Int) (w : World) (h : Vals w a (Y bs)) (hb : AllB bs) (hl : bs.length ≤ 1048576) :
    Calls Try.prog 41 #[.slice a bs.length c] w (NewPkF w (dpN bs) (dpX bs) (dpY bs) (dpOk bs)) := by
  have CD := fun (t k : Int) (W : World) (hW : Ext w W) => specDecodeInts_ok a c bs t k W (h.ext hW) hb hl
  have hd3 := decI_head (bs := bs) 3 (by omega)
  cases hd : rdTo bs 0 3 with
  | none =>
    obtain ⟨q1, q2, q3, q4⟩ := dp_none (dec_no_head hd)
    rw [q1, q2, q3, q4]
    refine specDecodePacket_n a c bs w fun W hW => ?_
    obtain ⟨d1, d2, d3⟩ := di_none (hd3.trans hd)
    have := CD 0 3 W hW
    rw [show (3 : Int) = ((3 : Nat) : Int) by rfl, d1, d2, d3] at this
    exact this
  | some p =>
    obtain ⟨l, e⟩ := p
    obtain ⟨x, y, z, rfl, hx0, hx1, hy0, hy1, hz0, hz1⟩ := rdTo_three hb hd
    have hel := (rdTo_le hb (Nat.zero_le _) hd).1
    have C0 : Hid (∀ W, Ext w W → Calls Try.prog 106 #[.slice a bs.length c, .int .i64 0, .int .i64 3] W (NewI3 W [x, y, z] (e : Int) true)) := fun W hW => by
      obtain ⟨d1, d2, d3⟩ := di_some (hd3.trans hd)
      have := CD 0 3 W hW
      rw [show (3 : Int) = ((3 : Nat) : Int) by rfl, d1, d2, d3] at this
      exact this
    have C1 := CD (e : Int) y
    have C2 := CD (diE bs (e : Int) y) z
    have l1 := diL_len bs (e : Int) y hb
    have l2 := diL_len bs (diE bs (e : Int) y) z hb
    cases h1 : decI bs (e : Int) y with
    | none =>
      obtain ⟨d1, d2, d3⟩ := di_none h1
      have hno : ¬ y ≤ 100 ∨ rdTo bs e y.toNat = none := by
        by_cases hy : y ≤ 100
        · exact .inr ((decI_in hel hy0 hy).symm.trans h1)
        · exact .inl hy
      obtain ⟨q1, q2, q3, q4⟩ := dp_none (dec_no_x hd hno)
      rw [q1, q2, q3, q4]
      rw [d3] at C1
      exact specDecodePacket_a a c bs x y z e _ _ _ _ w h hl l1 l2 _ C0 C1 C2
    | some p =>
      obtain ⟨xs, e2⟩ := p
      obtain ⟨d1, d2, d3⟩ := di_some h1
      have hy : y ≤ 100 := by
        unfold decI at h1
        split at h1
        · rename_i hr
          simp only [Bool.and_eq_true] at hr
          exact (inR_true.1 hr.1).2
        · cases h1
      rw [decI_in hel hy0 hy] at h1
      have hel2 := (rdTo_le hb hel h1).1
      rw [d1, d2, d3] at C1
      rw [d1] at l1
      rw [d2] at C2 l2
      cases h2 : decI bs (e2 : Int) z with
      | none =>
        obtain ⟨d1, d2, d3⟩ := di_none h2
        have hno : ¬ z ≤ 100 ∨ rdTo bs e2 z.toNat = none := by
          by_cases hz : z ≤ 100
          · exact .inr ((decI_in hel2 hz0 hz).symm.trans h2)
          · exact .inl hz
        obtain ⟨q1, q2, q3, q4⟩ := dp_none (dec_no_y hd h1 (hno.elim .inl fun h => .inr (.inl h)))
        rw [q1, q2, q3, q4]
        rw [d3] at C2
        exact specDecodePacket_b a c bs x y z e _ _ _ _ w h hl l1 l2 rfl C0 C1 C2
      | some p =>
        obtain ⟨ys, e3⟩ := p
        obtain ⟨d1, d2, d3⟩ := di_some h2
        have hz : z ≤ 100 := by
          unfold decI at h2
          split at h2
          · rename_i hr
            simp only [Bool.and_eq_true] at hr
            exact (inR_true.1 hr.1).2
          · cases h2
        rw [decI_in hel2 hz0 hz] at h2
        rw [d1, d2, d3] at C2
        rw [d1] at l2
        by_cases he : e3 = bs.length
        · subst he
          have hq : (((bs.length : Nat) : Int) != ((bs.length : Nat) : Int)) = false := by simp
          cases ho : ownPk x xs ys
          · obtain ⟨q1, q2, q3, q4⟩ := dp_none (dec_no_y hd h1 (.inr (.inr ⟨ys, _, h2, .inr ho⟩)))
            rw [q1, q2, q3, q4]
            exact specDecodePacket_d a c bs x y z e _ _ _ _ w h hl l1 l2 hq ho C0 C1 C2
          · obtain ⟨q1, q2, q3, q4⟩ := dp_some (dec_own hb hd h1 h2 hy0 hz0 ho)
            rw [q1, q2, q3, q4]
            exact specDecodePacket_e a c bs x y z e _ _ _ _ w h hl l1 l2 hq ho C0 C1 C2
        · have hq : (((e3 : Nat) : Int) != ((bs.length : Nat) : Int)) = true := by simp; omega
          obtain ⟨q1, q2, q3, q4⟩ := dp_none (dec_no_y hd h1 (.inr (.inr ⟨ys, _, h2, .inl he⟩)))
          rw [q1, q2, q3, q4]
          exact specDecodePacket_c a c bs x y z e _ _ _ _ w h hl l1 l2 hq C0 C1 C2

end Go.Proofs.Ytkegknophppdgaa
