/- Contract of Coordinates (program and reference); laws of FreeColumns and Coordinates. -/
import Derived.Test.YtkkblllhjcjcjaaBas3
import Derived.Test.YtkkblllhjcjcjaaLawTot
namespace Go.Proofs.Ytkkblllhjcjcjaa
open Go.RowKit
set_option linter.unusedVariables false
set_option maxRecDepth 20000

def coC (n : Int) (m : List (List Int)) (v : List Int) : List Int := if cvB n m v then coordTo m v m.length else []
theorem cvB_fits {n : Int} {m : List (List Int)} {v : List Int} (h : cvB n m v = true) : fitsB n m v = true := by
  unfold cvB at h
  rw [Bool.and_eq_true] at h
  exact h.1

set_option maxHeartbeats 4000000 in
theorem implCoordinates_ok (n : Int) (a : Option Addr) (c : Nat) (m : List (List Int)) (b : Option Addr) (d : Nat) (v : List Int) (w : World) (h : MatR w a m) (h' : Vals w b (I v)) (hl : m.length ≤ 1048576) (hr : ∀ xs ∈ m, xs.length ≤ 1048576) (hl' : v.length ≤ 1048576) :
    Calls Try.prog 43 #[bsV n a c m, .slice b v.length d] w (NewIF w (coC n m v) (cvB n m v)) := by
  have E : Ext w (w.alloc (.cells #[.int .i64 n, .slice a m.length c] 31)) := (Ext.refl w).alloc _
  have Q := Lib.hid (implContainsVector_ok n a c m b d v _ (h.ext E) (h'.ext E) hl hr hl')
  have HE := Lib.hid E
  clear hr E
  cases q1 : cvB n m v
  · have HF : Hid (coC n m v = []) := by unfold coC; rw [q1]; exact Lib.hid rfl
    rw [q1] at Q
    go_enter Try.func43, Try.ntmps43
    go_wp2_with fail
    (with_reducible refine Q.out.mono ?_)
    rintro e w1 ⟨rfl, e1⟩
    go_wp2_with fail
    go_ret2
    rw [HF.out]
    exact ⟨none, 0, rfl, OwnI.nil _ _, HE.out.trans e1⟩
  have HF : Hid (coC n m v = coordTo m v m.length) := by unfold coC; rw [q1]; exact Lib.hid rfl
  obtain ⟨p1, p2, p3, p4, p5, p6, _⟩ := fitsB_parts (cvB_fits q1)
  have HR := Lib.hid p1
  have HL := Lib.hid p3
  rw [q1] at Q
  clear q1 p1 p2 p3 p6
  go_enter Try.func43, Try.ntmps43
  go_wp2_with fail
  (with_reducible refine Q.out.mono ?_)
  rintro e w1 ⟨rfl, e1⟩
  have E1 := HE.out.trans e1
  have c1 := e1.cell (p := ⟨w.heap.size, 1, none⟩) (v := .slice a m.length c) (by simp)
  clear e1 Q
  go_wp2_with fail
  go_loopw [6, 16] (fun x i wr => ∃ (k : Nat) (a3 : Option Addr) (c3 : Nat) (us : List Int), k ≤ m.length ∧ i = .int .i64 k ∧ x = .slice a3 us.length c3 ∧ Hid (us = coordTo m v k) ∧ OwnI wr w.heap.size a3 c3 us ∧ Ext w wr) (fun _ i _ => m.length - (intOf i).toNat)
  case atStart => exact ⟨0, none, 0, [], Nat.zero_le _, rfl, rfl, rfl, OwnI.nil _ _, E1⟩
  case round =>
    clear c1 E1
    obtain ⟨k, a3, c3, us, hk, rfl, rfl, HU, ho, he⟩ := hrel
    have hul : us.length ≤ 40 := by rw [HU.out, coordTo_length]; omega
    by_cases hlt : k < m.length
    · obtain ⟨b1, o1, ra, rc, xs, rfl, hb, hx, hc, hrow⟩ := (h.ext he).at_ hlt
      have hxs : Hid (m.getD k [] = xs) := getD_some hx.out
      have hrk := HR.out.1.getD hlt
      have hlk := HR.out.ld_lt hlt
      rw [hxs.out] at hrk hlk
      obtain ⟨p, hp⟩ : ∃ p, Hid (ld xs = p) := ⟨_, rfl⟩
      rw [hp.out] at hlk
      have hxl : xs.length ≤ 40 := hrk.2.2
      have HP : Hid (leadI xs = (p : Int)) := leadI_nat hp.out (by rw [hrk.2.1]; exact hlk)
      have hpv : p < v.length := by rw [HL.out]; exact hlk
      obtain ⟨b2, o2, y, rfl, _, hy, hcy⟩ := (h'.ext he).atI hpv
      have hye : Hid (ent v p = y) := ent_some hy.out
      obtain ⟨ys, hys⟩ : ∃ ys, Hid (ys = us ++ [y]) := ⟨_, rfl⟩
      have HY : Hid (ys = coordTo m v (k + 1)) := by rw [coordTo_succ, hxs.out, hp.out, hye.out, ← HU.out]; exact hys
      have i1 : (p : Int) < (v.length : Int) := by omega
      clear hrk
      go_wp2_with (first
        | (go_at_call 56; (with_reducible refine (implLeadingIndex_ok _ _ _ _ hrow (by omega)).mono ?_); rintro e w' ⟨rfl, rfl⟩; rw [HP.out])
        | (at_builtin; refine wpList_appI _ rfl _ _ rfl w.heap.size _ _ us rfl (ho.ext ((Ext.refl wr).alloc _)) _ _ [y] rfl (Vals.new wr [.int .i64 y] _) ys hys.out (by simp; omega) (by have := he.size_le; simp; omega) ?_))
      intro a4 c4 w4 o4 g4 _
      have e4 := (he.alloc (.cells (I [y]).toArray 3)).grown g4 (fun k hk => (ho.block k hk).1)
      clear g4 ho he
      go_wp2_with fail
      go_roundw
      case rel => exact ⟨k + 1, a4, c4, ys, by omega, by go_num, rfl, HY, o4, e4⟩
      case measure => simp [intOf]; omega
    · obtain rfl : k = m.length := by omega
      go_wp2_with fail
      go_ret2
      rw [HF.out, ← HU.out]
      exact ⟨a3, c3, rfl, ho, he⟩

set_option maxHeartbeats 4000000 in
theorem specCoordinates_ok (n : Int) (a : Option Addr) (c : Nat) (m : List (List Int)) (b : Option Addr) (d : Nat) (v : List Int) (w : World) (h : MatR w a m) (h' : Vals w b (I v)) (hl : m.length ≤ 1048576) (hr : ∀ xs ∈ m, xs.length ≤ 1048576) (hl' : v.length ≤ 1048576) :
    Calls Try.prog 42 #[bsV n a c m, .slice b v.length d] w (NewIF w (coC n m v) (cvB n m v)) := by
  have E : Ext w ((w.alloc (.cells #[.int .i64 n, .slice a m.length c] 31)).alloc (.cells #[] 3)) := ((Ext.refl w).alloc _).alloc _
  have c1 : (w.alloc (.cells #[.int .i64 n, .slice a m.length c] 31)).cell? ⟨w.heap.size, 1, none⟩ = some (.slice a m.length c) := by simp
  have o0 : OwnI ((w.alloc (.cells #[.int .i64 n, .slice a m.length c] 31)).alloc (.cells #[] 3)) (w.heap.size + 1) (some ⟨w.heap.size + 1, 0, none⟩) 0 [] := by
    have := OwnI.new (w.alloc (.cells #[.int .i64 n, .slice a m.length c] 31)) (w.alloc (.cells #[.int .i64 n, .slice a m.length c] 31)).heap.size [] (Nat.le_refl _) (by simp)
    simpa using this
  have Q := Lib.hid (specContainsVector_ok n a c m b d v _ (h.ext E) (h'.ext E) hl hr hl')
  have HE := Lib.hid E
  have HO := Lib.hid o0
  clear hr E o0
  cases q1 : cvB n m v
  · have HF : Hid (coC n m v = []) := by unfold coC; rw [q1]; exact Lib.hid rfl
    rw [q1] at Q
    go_enter Try.func42, Try.ntmps42
    go_wp2_with fail
    (with_reducible refine Q.out.mono ?_)
    rintro e w1 ⟨rfl, e1⟩
    go_wp2_with fail
    go_ret2
    rw [HF.out]
    exact ⟨_, _, rfl, (HO.out.ext e1).more (by omega), HE.out.trans e1⟩
  have HF : Hid (coC n m v = coordTo m v m.length) := by unfold coC; rw [q1]; exact Lib.hid rfl
  obtain ⟨p1, p2, p3, p4, p5, p6, _⟩ := fitsB_parts (cvB_fits q1)
  have HR := Lib.hid p1
  have HL := Lib.hid p3
  rw [q1] at Q
  have EB : Ext w (w.alloc (.cells #[.int .i64 n, .slice a m.length c] 31)) := (Ext.refl w).alloc _
  have E0 : Ext (w.alloc (.cells #[.int .i64 n, .slice a m.length c] 31)) ((w.alloc (.cells #[.int .i64 n, .slice a m.length c] 31)).alloc (.cells #[] 3)) := (Ext.refl _).alloc _
  have hsz : (w.alloc (.cells #[.int .i64 n, .slice a m.length c] 31)).heap.size ≤ w.heap.size + 1 := by simp
  clear q1 p1 p2 p3 p6
  go_enter Try.func42, Try.ntmps42
  go_wp2_with fail
  (with_reducible refine Q.out.mono ?_)
  rintro e w1 ⟨rfl, e1⟩
  have E1 := E0.trans e1
  have O1 := HO.out.ext e1
  clear e1 Q E0 HO HE
  generalize w.alloc (.cells #[.int .i64 n, .slice a m.length c] 31) = W at *
  go_wp2_with fail
  go_loopw [6, 7] (fun x i wr => ∃ (k : Nat) (a3 : Option Addr) (c3 : Nat) (us : List Int), k ≤ m.length ∧ i = .int .i64 k ∧ x = .slice a3 us.length c3 ∧ Hid (us = coordTo m v k) ∧ OwnI wr (w.heap.size + 1) a3 c3 us ∧ Ext W wr) (fun _ i _ => m.length - (intOf i).toNat)
  case atStart => exact ⟨0, _, _, [], Nat.zero_le _, rfl, rfl, rfl, O1, E1⟩
  case round =>
    clear E1 O1
    obtain ⟨k, a3, c3, us, hk, rfl, rfl, HU, ho, hw⟩ := hrel
    have he := EB.trans hw
    have d1 := hw.cell c1
    have zb : w.heap.size + 1 ≤ wr.heap.size := by have := World.block_lt_of_cell? _ _ d1; show w.heap.size < _; exact this
    have hul : us.length ≤ 40 := by rw [HU.out, coordTo_length]; omega
    by_cases hlt : k < m.length
    · obtain ⟨b1, o1, ra, rc, xs, rfl, hb, hx, hc, hrow⟩ := (h.ext he).at_ hlt
      have hxs : Hid (m.getD k [] = xs) := getD_some hx.out
      have hrk := HR.out.1.getD hlt
      have hlk := HR.out.ld_lt hlt
      rw [hxs.out] at hrk hlk
      obtain ⟨p, hp⟩ : ∃ p, Hid (ld xs = p) := ⟨_, rfl⟩
      rw [hp.out] at hlk
      have hxl : xs.length ≤ 40 := hrk.2.2
      have HP : Hid (leadI xs = (p : Int)) := leadI_nat hp.out (by rw [hrk.2.1]; exact hlk)
      have hpv : p < v.length := by rw [HL.out]; exact hlk
      obtain ⟨b2, o2, y, rfl, _, hy, hcy⟩ := (h'.ext he).atI hpv
      have hye : Hid (ent v p = y) := ent_some hy.out
      obtain ⟨ys, hys⟩ : ∃ ys, Hid (ys = us ++ [y]) := ⟨_, rfl⟩
      have HY : Hid (ys = coordTo m v (k + 1)) := by rw [coordTo_succ, hxs.out, hp.out, hye.out, ← HU.out]; exact hys
      have i1 : (p : Int) < (v.length : Int) := by omega
      clear hrk
      go_wp2_with (first
        | (go_at_call 74; (with_reducible refine (specLeadingIndex_ok _ _ _ _ hrow (by omega)).mono ?_); rintro e w' ⟨rfl, rfl⟩; rw [HP.out])
        | (at_builtin; refine wpList_appI _ rfl _ _ rfl (w.heap.size + 1) _ _ us rfl (ho.ext ((Ext.refl wr).alloc _)) _ _ [y] rfl (Vals.new wr [.int .i64 y] _) ys hys.out (by simp; omega) (by simp; omega) ?_))
      intro a4 c4 w4 o4 g4 _
      have e4 := (hw.alloc (.cells (I [y]).toArray 3)).grown g4 (fun k hk => Nat.le_trans hsz (ho.block k hk).1)
      clear g4 ho he hw
      go_wp2_with fail
      go_roundw
      case rel => exact ⟨k + 1, a4, c4, ys, by omega, by go_num, rfl, HY, o4, e4⟩
      case measure => simp [intOf]; omega
    · obtain rfl : k = m.length := by omega
      go_wp2_with fail
      go_ret2
      rw [HF.out, ← HU.out]
      exact ⟨a3, c3, rfl, ho.more (by omega), he⟩

theorem fcB_len (n : Int) (m : List (List Int)) : (fcB n m).length ≤ 40 := by
  unfold fcB
  split
  · rename_i h
    have := validB_true.1 h
    have := freeTo_len m n.toNat
    omega
  · simp
theorem coC_len (n : Int) (m : List (List Int)) (v : List Int) : (coC n m v).length ≤ 40 := by
  unfold coC
  split
  · rename_i h
    rw [coordTo_length]
    exact (fitsB_parts (cvB_fits h)).2.2.2.2.1
  · simp

set_option maxHeartbeats 4000000 in
set_option maxRecDepth 100000 in
theorem lawFreeColumns (n0 : Int) (a0 : Option Addr) (c0 : Nat) (xss0 : List (List Int)) (w : World) (r0_0 : MatR w a0 xss0) (m0_0 : xss0.length ≤ maxLen) (m0_1 : ∀ xs ∈ xss0, xs.length ≤ maxLen) :
    Calls Try.prog 8 #[bsV n0 a0 c0 xss0] w (Gives w (.bool true)) := by
  replace m0_1 := Lib.hid m0_1
  by_cases hs0 : szM xss0 1048576 < 0
  · skip
    go_enter Try.func8, Try.ntmps8
    go_wp2_with fail
    refine (szBasis_ok _ _ _ _ _ _ (r0_0.ext ((Ext.refl w).alloc _)) m0_0 m0_1.out (by omega) (by omega)).mono ?_
    rintro e w1 ⟨rfl, e1⟩
    have E := ((Ext.refl w).alloc _).trans e1
    have z0 := e1.size_le
    simp at z0
    have p0_0 := e1.cell (p := ⟨w.heap.size, 0, none⟩) (v := .int .i64 n0) (by simp)
    have p0_1 := e1.cell (p := ⟨w.heap.size, 1, none⟩) (v := .slice a0 xss0.length c0) (by simp)
    go_wp2_with fail
    go_ret
    exact ⟨rfl, E⟩
  obtain ⟨hle0, heq0⟩ := szM_le (Int.not_lt.1 hs0)
  have hl0 : xss0.length ≤ 1048576 := by omega
  have hr0 : Hid (∀ xs ∈ xss0, xs.length ≤ 1048576) := fun xs hx => by have := rows_le hx; omega
  have ht0 : tot xss0 ≤ 1099511627776 := by omega
  have hu0 : tot xss0 ≤ 1048576 := by omega
  have hf0 : szM xss0 1048576 ≤ 1048576 := by omega
  have hg0 : 0 ≤ szM xss0 1048576 := by omega
  replace heq0 := Lib.hid heq0
  have hres : (fcB n0 xss0).length ≤ 1048576 := Nat.le_trans (fcB_len n0 xss0) (by omega)
  go_enter Try.func8, Try.ntmps8
  go_wp2_with fail
  refine (szBasis_ok _ _ _ _ _ _ (r0_0.ext ((Ext.refl w).alloc _)) m0_0 m0_1.out (by omega) (by omega)).mono ?_
  rintro e w1 ⟨rfl, e1⟩
  have E := ((Ext.refl w).alloc _).trans e1
  have z0 := e1.size_le
  simp at z0
  have p0_0 := e1.cell (p := ⟨w.heap.size, 0, none⟩) (v := .int .i64 n0) (by simp)
  have p0_1 := e1.cell (p := ⟨w.heap.size, 1, none⟩) (v := .slice a0 xss0.length c0) (by simp)
  go_wp2_with fail
  refine (toBasis_ok _ _ _ _ _ (r0_0.ext (E)) hl0 hr0.out).mono ?_
  rintro e w2 ⟨t2a, t2c, rfl, t2o, e2⟩
  have z2 := e2.size_le
  replace p0_0 := e2.cell p0_0
  replace p0_1 := e2.cell p0_1
  replace E := E.trans e2
  clear e2
  go_wp2_with fail
  refine (specFreeColumns_ok _ _ _ _ _ (t2o.reads) hl0 hr0.out).mono ?_
  rintro e w3 ⟨u0a, u0c, rfl, u0o, e3⟩
  have z3 := e3.size_le
  replace p0_0 := e3.cell p0_0
  replace p0_1 := e3.cell p0_1
  replace t2o := t2o.ext e3
  replace E := E.trans e3
  clear e3
  replace u0o := OI.of u0o
  go_wp2_with fail
  refine (toBasis_ok _ _ _ _ _ (r0_0.ext (E)) hl0 hr0.out).mono ?_
  rintro e w4 ⟨t4a, t4c, rfl, t4o, e4⟩
  have z4 := e4.size_le
  replace p0_0 := e4.cell p0_0
  replace p0_1 := e4.cell p0_1
  replace u0o := u0o.ext e4
  replace E := E.trans e4
  clear e4
  have y_p0_0 := ((Ext.refl w4).alloc (.cells #[.int .i64 n0, .slice t4a xss0.length t4c] 31)).cell p0_0
  have y_p0_1 := ((Ext.refl w4).alloc (.cells #[.int .i64 n0, .slice t4a xss0.length t4c] 31)).cell p0_1
  go_wp2_with fail
  refine (implFreeColumns_ok _ _ _ _ _ ((t4o.reads).ext ((Ext.refl _).alloc _)) hl0 hr0.out).mono ?_
  clear y_p0_0 y_p0_1
  rintro e w5 ⟨u1a, u1c, rfl, u1o, e5⟩
  have z5 := e5.size_le
  simp at z5
  replace p0_0 := (((Ext.refl w4).alloc _).trans e5).cell p0_0
  replace p0_1 := (((Ext.refl w4).alloc _).trans e5).cell p0_1
  replace u0o := u0o.ext (((Ext.refl w4).alloc _).trans e5)
  replace t4o := t4o.ext (((Ext.refl w4).alloc _).trans e5)
  have x0_0 := e5.cell (p := ⟨w4.heap.size, 0, none⟩) (v := .int .i64 n0) (by simp)
  have x0_1 := e5.cell (p := ⟨w4.heap.size, 1, none⟩) (v := .slice t4a xss0.length t4c) (by simp)
  replace E := (E.alloc _).trans e5
  clear e5
  replace u1o := OI.of u1o
  replace u1o := u1o.mono (C := w4.heap.size + 1) (C2 := w5.heap.size) (by simp) (Nat.le_refl _)
  go_wp2_with fail
  refine (eqIntS_ok _ _ _ _ _ _ _ (u1o.vals) (u0o.vals) (by omega)).mono ?_
  rintro e w6 ⟨rfl, e6⟩
  replace e6 := Dr.ext e6
  have z6 := e6.size_le
  replace p0_0 := e6.cell p0_0
  replace p0_1 := e6.cell p0_1
  replace x0_0 := e6.cell x0_0
  replace x0_1 := e6.cell x0_1
  replace u0o := u0o.ext e6
  replace t4o := t4o.ext e6
  replace u1o := u1o.ext e6
  replace E := E.trans e6
  clear e6
  have qe0 := eqB_self n0 xss0
  go_wp2_with fail
  go_region_held3 (fun w' => w'.cell? ⟨w.heap.size, 0, none⟩ = some (.int .i64 n0) ∧ w'.cell? ⟨w.heap.size, 1, none⟩ = some (.slice a0 xss0.length c0) ∧ w'.cell? ⟨w4.heap.size, 0, none⟩ = some (.int .i64 n0) ∧ w'.cell? ⟨w4.heap.size, 1, none⟩ = some (.slice t4a xss0.length t4c))
    (first | go_keep | exact ⟨(e8).cell ((e7).cell (p0_0)), (e8).cell ((e7).cell (p0_1)), (e8).cell ((e7).cell (x0_0)), (e8).cell ((e7).cell (x0_1))⟩ | exact ⟨(e7).cell (p0_0), (e7).cell (p0_1), (e7).cell (x0_0), (e7).cell (x0_1)⟩)
    (first | (go_at_call 22; (with_reducible refine (toBasis_ok _ _ _ _ _ (r0_0.ext (E.trans ((Ext.refl w6).drew))) hl0 hr0.out).mono ?_); rintro e w7 ⟨t7a, t7c, rfl, t7o, e7⟩) | (go_at_call 24; (with_reducible refine (eqBasis_ok _ _ _ _ _ _ _ _ _ ((t4o.reads).ext (((Ext.refl w6).drew).trans e7)) (t7o.reads) hl0 hr0.out).mono ?_); rintro e w8 ⟨rfl, e8⟩))
  have z7 := (((Ext.refl w6).drew.trans e7)).size_le
  have z8 := (e8).size_le
  replace p0_0 := (e8).cell ((e7).cell (p0_0))
  replace p0_1 := (e8).cell ((e7).cell (p0_1))
  replace x0_0 := (e8).cell ((e7).cell (x0_0))
  replace x0_1 := (e8).cell ((e7).cell (x0_1))
  replace u0o := u0o.ext ((((Ext.refl w6).drew).trans e7).trans e8)
  replace t4o := t4o.ext ((((Ext.refl w6).drew).trans e7).trans e8)
  replace u1o := u1o.ext ((((Ext.refl w6).drew).trans e7).trans e8)
  replace E := E.trans ((((Ext.refl w6).drew).trans e7).trans e8)
  go_wp2_with fail
  refine (markBasis_ok _ _ _ _ _ _ _ _ t4o (by omega) (by omega) ht0 (by omega) (by omega)).mono ?_
  rintro e w9 ⟨rfl, t4o', s9⟩
  have z9 := s9.size
  replace p0_0 := s9.cell p0_0 (by show w.heap.size < _ ∨ _ ≤ w.heap.size; omega)
  replace p0_1 := s9.cell p0_1 (by show w.heap.size < _ ∨ _ ≤ w.heap.size; omega)
  replace x0_0 := s9.cell x0_0 (by show w4.heap.size < _ ∨ _ ≤ w4.heap.size; omega)
  replace x0_1 := s9.cell x0_1 (by show w4.heap.size < _ ∨ _ ≤ w4.heap.size; omega)
  replace u0o := u0o.span s9 (by omega)
  replace u1o := u1o.span s9 (by omega)
  replace E := Span.ext E s9 (by omega)
  clear s9 t4o
  have t4o := t4o'
  clear t4o'
  go_wp2_with fail
  refine (eqIntS_ok _ _ _ _ _ _ _ (u1o.vals) (u0o.vals) (by omega)).mono ?_
  rintro e w10 ⟨rfl, e10⟩
  replace e10 := Dr.ext e10
  have z10 := e10.size_le
  replace p0_0 := e10.cell p0_0
  replace p0_1 := e10.cell p0_1
  replace x0_0 := e10.cell x0_0
  replace x0_1 := e10.cell x0_1
  replace u0o := u0o.ext e10
  replace u1o := u1o.ext e10
  replace E := E.trans e10
  clear e10
  go_wp2_with fail
  refine (markIntS_ok _ _ _ _ _ _ _ u1o (by omega) (by omega) (by omega)).mono ?_
  rintro e w11 ⟨rfl, u1o', s11⟩
  have z11 := s11.size
  replace p0_0 := s11.cell p0_0 (by show w.heap.size < _ ∨ _ ≤ w.heap.size; omega)
  replace p0_1 := s11.cell p0_1 (by show w.heap.size < _ ∨ _ ≤ w.heap.size; omega)
  replace x0_0 := s11.cell x0_0 (by show w4.heap.size < _ ∨ _ ≤ w4.heap.size; omega)
  replace x0_1 := s11.cell x0_1 (by show w4.heap.size < _ ∨ _ ≤ w4.heap.size; omega)
  replace u0o := u0o.span s11 (by omega)
  replace E := Span.ext E s11 (by omega)
  clear s11 u1o
  have u1o := u1o'
  clear u1o'
  go_wp2_with fail
  refine (heldIntS_ok _ _ _ _ _ (u1o.vals) (by omega) (by omega) (by omega)).mono ?_
  rintro e w12 ⟨rfl, rfl⟩
  go_wp2_with fail
  refine (toBasis_ok _ _ _ _ _ (r0_0.ext (E)) hl0 hr0.out).mono ?_
  rintro e w12 ⟨t12a, t12c, rfl, t12o, e12⟩
  have z12 := e12.size_le
  replace p0_0 := e12.cell p0_0
  replace p0_1 := e12.cell p0_1
  replace x0_0 := e12.cell x0_0
  replace x0_1 := e12.cell x0_1
  replace u0o := u0o.ext e12
  replace u1o := u1o.ext e12
  replace E := E.trans e12
  clear e12
  go_wp2_with fail
  refine (implFreeColumns_ok _ _ _ _ _ (t12o.reads) hl0 hr0.out).mono ?_
  rintro e w13 ⟨u2a, u2c, rfl, u2o, e13⟩
  have z13 := e13.size_le
  replace p0_0 := e13.cell p0_0
  replace p0_1 := e13.cell p0_1
  replace x0_0 := e13.cell x0_0
  replace x0_1 := e13.cell x0_1
  replace u0o := u0o.ext e13
  replace u1o := u1o.ext e13
  replace t12o := t12o.ext e13
  replace E := E.trans e13
  clear e13
  replace u2o := OI.of u2o
  go_wp2_with fail
  refine (eqIntS_ok _ _ _ _ _ _ _ (u2o.vals) (u0o.vals) (by omega)).mono ?_
  rintro e w14 ⟨rfl, e14⟩
  replace e14 := Dr.ext e14
  have z14 := e14.size_le
  replace p0_0 := e14.cell p0_0
  replace p0_1 := e14.cell p0_1
  replace x0_0 := e14.cell x0_0
  replace x0_1 := e14.cell x0_1
  replace u0o := u0o.ext e14
  replace u1o := u1o.ext e14
  replace u2o := u2o.ext e14
  replace E := E.trans e14
  clear e14
  go_wp2_with fail
  refine (heldIntS_ok _ _ _ _ _ (u1o.vals) (by omega) (by omega) (by omega)).mono ?_
  rintro e w15 ⟨rfl, rfl⟩
  go_wp2_with fail
  go_ret
  exact ⟨rfl, E⟩

set_option maxHeartbeats 4000000 in
set_option maxRecDepth 100000 in
theorem lawCoordinates (n0 : Int) (a0 : Option Addr) (c0 : Nat) (xss0 : List (List Int)) (a1 : Option Addr) (c1 : Nat) (xs1 : List Int) (w : World) (r0_0 : MatR w a0 xss0) (r1_0 : Vals w a1 (I xs1)) (m0_0 : xss0.length ≤ maxLen) (m0_1 : ∀ xs ∈ xss0, xs.length ≤ maxLen) (m1_0 : xs1.length ≤ maxLen) :
    Calls Try.prog 11 #[bsV n0 a0 c0 xss0, .slice a1 xs1.length c1] w (Gives w (.bool true)) := by
  replace m0_1 := Lib.hid m0_1
  by_cases hl1 : xs1.length ≤ 1048576
  rotate_left
  · have d1 : (1048576 : Int) < (xs1.length : Int) := by omega
    unfold maxLen at m1_0
    go_enter Try.func11, Try.ntmps11
    go_wp2_with fail
    go_ret
    exact ⟨rfl, (Ext.refl w).alloc _⟩
  have d1 : decide ((1048576 : Int) < (xs1.length : Int)) = false := by simp; omega
  by_cases hs0 : szM xss0 1048576 < 0
  · skip
    go_enter Try.func11, Try.ntmps11
    go_wp2_with fail
    refine (szBasis_ok _ _ _ _ _ _ (r0_0.ext ((Ext.refl w).alloc _)) m0_0 m0_1.out (by omega) (by omega)).mono ?_
    rintro e w1 ⟨rfl, e1⟩
    have E := ((Ext.refl w).alloc _).trans e1
    have z0 := e1.size_le
    simp at z0
    have p0_0 := e1.cell (p := ⟨w.heap.size, 0, none⟩) (v := .int .i64 n0) (by simp)
    have p0_1 := e1.cell (p := ⟨w.heap.size, 1, none⟩) (v := .slice a0 xss0.length c0) (by simp)
    go_wp2_with fail
    go_ret
    exact ⟨rfl, E⟩
  obtain ⟨hle0, heq0⟩ := szM_le (Int.not_lt.1 hs0)
  have hl0 : xss0.length ≤ 1048576 := by omega
  have hr0 : Hid (∀ xs ∈ xss0, xs.length ≤ 1048576) := fun xs hx => by have := rows_le hx; omega
  have ht0 : tot xss0 ≤ 1099511627776 := by omega
  have hu0 : tot xss0 ≤ 1048576 := by omega
  have hf0 : szM xss0 1048576 ≤ 1048576 := by omega
  have hg0 : 0 ≤ szM xss0 1048576 := by omega
  replace heq0 := Lib.hid heq0
  have hres : (coC n0 xss0 xs1).length ≤ 1048576 := Nat.le_trans (coC_len n0 xss0 xs1) (by omega)
  go_enter Try.func11, Try.ntmps11
  go_wp2_with fail
  refine (szBasis_ok _ _ _ _ _ _ (r0_0.ext ((Ext.refl w).alloc _)) m0_0 m0_1.out (by omega) (by omega)).mono ?_
  rintro e w1 ⟨rfl, e1⟩
  have E := ((Ext.refl w).alloc _).trans e1
  have z0 := e1.size_le
  simp at z0
  have p0_0 := e1.cell (p := ⟨w.heap.size, 0, none⟩) (v := .int .i64 n0) (by simp)
  have p0_1 := e1.cell (p := ⟨w.heap.size, 1, none⟩) (v := .slice a0 xss0.length c0) (by simp)
  go_wp2_with fail
  refine (toBasis_ok _ _ _ _ _ (r0_0.ext (E)) hl0 hr0.out).mono ?_
  rintro e w2 ⟨t2a, t2c, rfl, t2o, e2⟩
  have z2 := e2.size_le
  replace p0_0 := e2.cell p0_0
  replace p0_1 := e2.cell p0_1
  replace E := E.trans e2
  clear e2
  go_wp2_with fail
  refine (toIntS_ok _ _ _ _ (r1_0.ext (E)) hl1).mono ?_
  rintro e w3 ⟨t3a, t3c, rfl, t3o, e3⟩
  have z3 := e3.size_le
  replace p0_0 := e3.cell p0_0
  replace p0_1 := e3.cell p0_1
  replace t2o := t2o.ext e3
  replace E := E.trans e3
  clear e3
  replace t3o := OI.of t3o
  go_wp2_with fail
  refine (specCoordinates_ok _ _ _ _ _ _ _ _ (t2o.reads) (t3o.vals) hl0 hr0.out hl1).mono ?_
  rintro e w4 ⟨u0a, u0c, rfl, u0o, e4⟩
  have z4 := e4.size_le
  replace p0_0 := e4.cell p0_0
  replace p0_1 := e4.cell p0_1
  replace t2o := t2o.ext e4
  replace t3o := t3o.ext e4
  replace E := E.trans e4
  clear e4
  replace u0o := OI.of u0o
  go_wp2_with fail
  refine (toBasis_ok _ _ _ _ _ (r0_0.ext (E)) hl0 hr0.out).mono ?_
  rintro e w5 ⟨t5a, t5c, rfl, t5o, e5⟩
  have z5 := e5.size_le
  replace p0_0 := e5.cell p0_0
  replace p0_1 := e5.cell p0_1
  replace u0o := u0o.ext e5
  replace E := E.trans e5
  clear e5
  have y_p0_0 := ((Ext.refl w5).alloc (.cells #[.int .i64 n0, .slice t5a xss0.length t5c] 31)).cell p0_0
  have y_p0_1 := ((Ext.refl w5).alloc (.cells #[.int .i64 n0, .slice t5a xss0.length t5c] 31)).cell p0_1
  go_wp2_with fail
  refine (toIntS_ok _ _ _ _ (r1_0.ext (E.alloc _)) hl1).mono ?_
  clear y_p0_0 y_p0_1
  rintro e w6 ⟨t6a, t6c, rfl, t6o, e6⟩
  have z6 := e6.size_le
  simp at z6
  replace p0_0 := (((Ext.refl w5).alloc _).trans e6).cell p0_0
  replace p0_1 := (((Ext.refl w5).alloc _).trans e6).cell p0_1
  replace u0o := u0o.ext (((Ext.refl w5).alloc _).trans e6)
  replace t5o := t5o.ext (((Ext.refl w5).alloc _).trans e6)
  have x0_0 := e6.cell (p := ⟨w5.heap.size, 0, none⟩) (v := .int .i64 n0) (by simp)
  have x0_1 := e6.cell (p := ⟨w5.heap.size, 1, none⟩) (v := .slice t5a xss0.length t5c) (by simp)
  replace E := (E.alloc _).trans e6
  clear e6
  replace t6o := OI.of t6o
  replace t6o := t6o.mono (C := w5.heap.size + 1) (C2 := w6.heap.size) (by simp) (Nat.le_refl _)
  go_wp2_with fail
  refine (implCoordinates_ok _ _ _ _ _ _ _ _ (t5o.reads) (t6o.vals) hl0 hr0.out hl1).mono ?_
  rintro e w7 ⟨u1a, u1c, rfl, u1o, e7⟩
  have z7 := e7.size_le
  replace p0_0 := e7.cell p0_0
  replace p0_1 := e7.cell p0_1
  replace x0_0 := e7.cell x0_0
  replace x0_1 := e7.cell x0_1
  replace u0o := u0o.ext e7
  replace t5o := t5o.ext e7
  replace t6o := t6o.ext e7
  replace E := E.trans e7
  clear e7
  replace u1o := OI.of u1o
  have qflag : ((cvB n0 xss0 xs1) != (cvB n0 xss0 xs1)) = false := by simp
  go_wp2_with fail
  refine (eqIntS_ok _ _ _ _ _ _ _ (u1o.vals) (u0o.vals) (by omega)).mono ?_
  rintro e w8 ⟨rfl, e8⟩
  replace e8 := Dr.ext e8
  have z8 := e8.size_le
  replace p0_0 := e8.cell p0_0
  replace p0_1 := e8.cell p0_1
  replace x0_0 := e8.cell x0_0
  replace x0_1 := e8.cell x0_1
  replace u0o := u0o.ext e8
  replace t5o := t5o.ext e8
  replace t6o := t6o.ext e8
  replace u1o := u1o.ext e8
  replace E := E.trans e8
  clear e8
  have qe0 := eqB_self n0 xss0
  go_wp2_with fail
  go_region_held3 (fun w' => w'.cell? ⟨w.heap.size, 0, none⟩ = some (.int .i64 n0) ∧ w'.cell? ⟨w.heap.size, 1, none⟩ = some (.slice a0 xss0.length c0) ∧ w'.cell? ⟨w5.heap.size, 0, none⟩ = some (.int .i64 n0) ∧ w'.cell? ⟨w5.heap.size, 1, none⟩ = some (.slice t5a xss0.length t5c))
    (first | go_keep | exact ⟨(e10).cell ((e9).cell (p0_0)), (e10).cell ((e9).cell (p0_1)), (e10).cell ((e9).cell (x0_0)), (e10).cell ((e9).cell (x0_1))⟩ | exact ⟨(e9).cell (p0_0), (e9).cell (p0_1), (e9).cell (x0_0), (e9).cell (x0_1)⟩)
    (first | (go_at_call 22; (with_reducible refine (toBasis_ok _ _ _ _ _ (r0_0.ext (E.trans ((Ext.refl w8).drew))) hl0 hr0.out).mono ?_); rintro e w9 ⟨t9a, t9c, rfl, t9o, e9⟩) | (go_at_call 24; (with_reducible refine (eqBasis_ok _ _ _ _ _ _ _ _ _ ((t5o.reads).ext (((Ext.refl w8).drew).trans e9)) (t9o.reads) hl0 hr0.out).mono ?_); rintro e w10 ⟨rfl, e10⟩))
  have z9 := (((Ext.refl w8).drew.trans e9)).size_le
  have z10 := (e10).size_le
  replace p0_0 := (e10).cell ((e9).cell (p0_0))
  replace p0_1 := (e10).cell ((e9).cell (p0_1))
  replace x0_0 := (e10).cell ((e9).cell (x0_0))
  replace x0_1 := (e10).cell ((e9).cell (x0_1))
  replace u0o := u0o.ext ((((Ext.refl w8).drew).trans e9).trans e10)
  replace t5o := t5o.ext ((((Ext.refl w8).drew).trans e9).trans e10)
  replace t6o := t6o.ext ((((Ext.refl w8).drew).trans e9).trans e10)
  replace u1o := u1o.ext ((((Ext.refl w8).drew).trans e9).trans e10)
  replace E := E.trans ((((Ext.refl w8).drew).trans e9).trans e10)
  go_wp2_with fail
  refine (toIntS_ok _ _ _ _ (r1_0.ext (E)) hl1).mono ?_
  rintro e w11 ⟨t11a, t11c, rfl, t11o, e11⟩
  have z11 := e11.size_le
  replace p0_0 := e11.cell p0_0
  replace p0_1 := e11.cell p0_1
  replace x0_0 := e11.cell x0_0
  replace x0_1 := e11.cell x0_1
  replace u0o := u0o.ext e11
  replace t5o := t5o.ext e11
  replace t6o := t6o.ext e11
  replace u1o := u1o.ext e11
  replace E := E.trans e11
  clear e11
  replace t11o := OI.of t11o
  go_wp2_with fail
  refine (eqIntS_ok _ _ _ _ _ _ _ (t6o.vals) (t11o.vals) (by omega)).mono ?_
  rintro e w12 ⟨rfl, e12⟩
  replace e12 := Dr.ext e12
  have z12 := e12.size_le
  replace p0_0 := e12.cell p0_0
  replace p0_1 := e12.cell p0_1
  replace x0_0 := e12.cell x0_0
  replace x0_1 := e12.cell x0_1
  replace u0o := u0o.ext e12
  replace t5o := t5o.ext e12
  replace t6o := t6o.ext e12
  replace u1o := u1o.ext e12
  replace E := E.trans e12
  clear e12
  go_wp2_with fail
  refine (markBasis_ok _ _ _ _ _ _ _ _ t5o (by omega) (by omega) ht0 (by omega) (by omega)).mono ?_
  rintro e w13 ⟨rfl, t5o', s13⟩
  have z13 := s13.size
  replace p0_0 := s13.cell p0_0 (by show w.heap.size < _ ∨ _ ≤ w.heap.size; omega)
  replace p0_1 := s13.cell p0_1 (by show w.heap.size < _ ∨ _ ≤ w.heap.size; omega)
  replace x0_0 := s13.cell x0_0 (by show w5.heap.size < _ ∨ _ ≤ w5.heap.size; omega)
  replace x0_1 := s13.cell x0_1 (by show w5.heap.size < _ ∨ _ ≤ w5.heap.size; omega)
  replace u0o := u0o.span s13 (by omega)
  replace t6o := t6o.span s13 (by omega)
  replace u1o := u1o.span s13 (by omega)
  replace E := Span.ext E s13 (by omega)
  clear s13 t5o
  have t5o := t5o'
  clear t5o'
  go_wp2_with fail
  refine (markIntS_ok _ _ _ _ _ _ _ t6o (by omega) (by omega) (by omega)).mono ?_
  rintro e w14 ⟨rfl, t6o', s14⟩
  have z14 := s14.size
  replace p0_0 := s14.cell p0_0 (by show w.heap.size < _ ∨ _ ≤ w.heap.size; omega)
  replace p0_1 := s14.cell p0_1 (by show w.heap.size < _ ∨ _ ≤ w.heap.size; omega)
  replace x0_0 := s14.cell x0_0 (by show w5.heap.size < _ ∨ _ ≤ w5.heap.size; omega)
  replace x0_1 := s14.cell x0_1 (by show w5.heap.size < _ ∨ _ ≤ w5.heap.size; omega)
  replace u0o := u0o.span s14 (by omega)
  replace u1o := u1o.span s14 (by omega)
  replace E := Span.ext E s14 (by omega)
  clear s14 t6o
  have t6o := t6o'
  clear t6o'
  go_wp2_with fail
  refine (eqIntS_ok _ _ _ _ _ _ _ (u1o.vals) (u0o.vals) (by omega)).mono ?_
  rintro e w15 ⟨rfl, e15⟩
  replace e15 := Dr.ext e15
  have z15 := e15.size_le
  replace p0_0 := e15.cell p0_0
  replace p0_1 := e15.cell p0_1
  replace x0_0 := e15.cell x0_0
  replace x0_1 := e15.cell x0_1
  replace u0o := u0o.ext e15
  replace u1o := u1o.ext e15
  replace E := E.trans e15
  clear e15
  go_wp2_with fail
  refine (markIntS_ok _ _ _ _ _ _ _ u1o (by omega) (by omega) (by omega)).mono ?_
  rintro e w16 ⟨rfl, u1o', s16⟩
  have z16 := s16.size
  replace p0_0 := s16.cell p0_0 (by show w.heap.size < _ ∨ _ ≤ w.heap.size; omega)
  replace p0_1 := s16.cell p0_1 (by show w.heap.size < _ ∨ _ ≤ w.heap.size; omega)
  replace x0_0 := s16.cell x0_0 (by show w5.heap.size < _ ∨ _ ≤ w5.heap.size; omega)
  replace x0_1 := s16.cell x0_1 (by show w5.heap.size < _ ∨ _ ≤ w5.heap.size; omega)
  replace u0o := u0o.span s16 (by omega)
  replace E := Span.ext E s16 (by omega)
  clear s16 u1o
  have u1o := u1o'
  clear u1o'
  go_wp2_with fail
  refine (heldIntS_ok _ _ _ _ _ (u1o.vals) (by omega) (by omega) (by omega)).mono ?_
  rintro e w17 ⟨rfl, rfl⟩
  go_wp2_with fail
  refine (toBasis_ok _ _ _ _ _ (r0_0.ext (E)) hl0 hr0.out).mono ?_
  rintro e w17 ⟨t17a, t17c, rfl, t17o, e17⟩
  have z17 := e17.size_le
  replace p0_0 := e17.cell p0_0
  replace p0_1 := e17.cell p0_1
  replace x0_0 := e17.cell x0_0
  replace x0_1 := e17.cell x0_1
  replace u0o := u0o.ext e17
  replace u1o := u1o.ext e17
  replace E := E.trans e17
  clear e17
  go_wp2_with fail
  refine (toIntS_ok _ _ _ _ (r1_0.ext (E)) hl1).mono ?_
  rintro e w18 ⟨t18a, t18c, rfl, t18o, e18⟩
  have z18 := e18.size_le
  replace p0_0 := e18.cell p0_0
  replace p0_1 := e18.cell p0_1
  replace x0_0 := e18.cell x0_0
  replace x0_1 := e18.cell x0_1
  replace u0o := u0o.ext e18
  replace u1o := u1o.ext e18
  replace t17o := t17o.ext e18
  replace E := E.trans e18
  clear e18
  replace t18o := OI.of t18o
  go_wp2_with fail
  refine (implCoordinates_ok _ _ _ _ _ _ _ _ (t17o.reads) (t18o.vals) hl0 hr0.out hl1).mono ?_
  rintro e w19 ⟨u2a, u2c, rfl, u2o, e19⟩
  have z19 := e19.size_le
  replace p0_0 := e19.cell p0_0
  replace p0_1 := e19.cell p0_1
  replace x0_0 := e19.cell x0_0
  replace x0_1 := e19.cell x0_1
  replace u0o := u0o.ext e19
  replace u1o := u1o.ext e19
  replace t17o := t17o.ext e19
  replace t18o := t18o.ext e19
  replace E := E.trans e19
  clear e19
  replace u2o := OI.of u2o
  go_wp2_with fail
  refine (eqIntS_ok _ _ _ _ _ _ _ (u2o.vals) (u0o.vals) (by omega)).mono ?_
  rintro e w20 ⟨rfl, e20⟩
  replace e20 := Dr.ext e20
  have z20 := e20.size_le
  replace p0_0 := e20.cell p0_0
  replace p0_1 := e20.cell p0_1
  replace x0_0 := e20.cell x0_0
  replace x0_1 := e20.cell x0_1
  replace u0o := u0o.ext e20
  replace u1o := u1o.ext e20
  replace u2o := u2o.ext e20
  replace E := E.trans e20
  clear e20
  go_wp2_with fail
  refine (heldIntS_ok _ _ _ _ _ (u1o.vals) (by omega) (by omega) (by omega)).mono ?_
  rintro e w21 ⟨rfl, rfl⟩
  go_wp2_with fail
  go_ret
  exact ⟨rfl, E⟩

end Go.Proofs.Ytkkblllhjcjcjaa
