/- Contracts of ReduceVector, ContainsVector, IsSubspace, Coordinates (program and reference). -/
import Derived.Test.YtninamlcffemoaaBas
namespace Go.Proofs.Ytninamlcffemoaa
open Go.RowKit
set_option linter.unusedVariables false
set_option maxRecDepth 20000

def rvB (n : Int) (m : List (List Int)) (v : List Int) : List Int := if fitsB n m v then redV m v else []
def cvB (n : Int) (m : List (List Int)) (v : List Int) : Bool := fitsB n m v && decide (leadI (redV m v) < 0)

set_option maxHeartbeats 4000000 in
set_option maxRecDepth 100000 in
theorem specReduceVector_ok (n : Int) (a : Option Addr) (c : Nat) (m : List (List Int)) (b : Option Addr) (d : Nat) (v : List Int) (w : World) (h : MatR w a m) (h' : Vals w b (I v)) (hl : m.length ≤ 1048576) (hr : ∀ xs ∈ m, xs.length ≤ 1048576) (hl' : v.length ≤ 1048576) :
    Calls Try.prog 118 #[bsV n a c m, .slice b v.length d] w (NewI w (rvB n m v)) := by
  have E : Ext w (w.alloc (.cells #[.int .i64 n, .slice a m.length c] 46)) := (Ext.refl w).alloc _
  have Q := Lib.hid (specFits_ok n a c m b d v _ (h.ext E) (h'.ext E) hl hr hl')
  have HE := Lib.hid E
  clear hr E
  cases q1 : fitsB n m v
  · have HF : Hid (rvB n m v = []) := by unfold rvB; rw [q1]; exact Lib.hid rfl
    rw [q1] at Q
    go_enter Try.func118, Try.ntmps118
    go_wp2_with fail
    (with_reducible refine Q.out.mono ?_)
    rintro e w1 ⟨rfl, e1⟩
    have E1 := HE.out.trans e1
    have o0 := (OwnI.new w1 w1.heap.size [] (Nat.le_refl _) (by simp)).more E1.size_le
    go_wp2_with fail
    go_ret
    rw [HF.out]
    exact ⟨_, _, rfl, o0, E1.alloc _⟩
  have HF : Hid (rvB n m v = redV m v) := by unfold rvB; rw [q1]; exact Lib.hid rfl
  obtain ⟨p1, p2, p3, p4, p5, p6, _⟩ := fitsB_parts q1
  have HR := Lib.hid p1
  have HV := Lib.hid p2
  have HL := Lib.hid p3
  have hvl : v.length ≤ 40 := by omega
  rw [q1] at Q
  clear q1 p1 p2 p3 p6
  go_enter Try.func118, Try.ntmps118
  go_wp2_with fail
  (with_reducible refine Q.out.mono ?_)
  rintro e w1 ⟨rfl, e1⟩
  have E1 := HE.out.trans e1
  have c1 := e1.cell (p := ⟨w.heap.size, 1, none⟩) (v := .slice a m.length c) (by simp)
  have z1 := E1.size_le
  clear e1 Q
  go_wp2_with (at_builtin; refine wpList_appI _ rfl _ _ rfl w1.heap.size _ _ [] rfl (OwnI.new w1 _ [] (Nat.le_refl _) (by simp)) _ _ v rfl (h'.ext (E1.alloc _)) v rfl (by simp; omega) (by simp) ?_)
  intro a2 c2 w2 o2 g2 _
  have e2 := ((Ext.refl w1).alloc (.cells (I []).toArray 3)).grown g2 (by simp [blockOf])
  have E2 := E1.trans e2
  replace c1 := e2.cell c1
  have o3 := o2.more z1
  clear g2 o2 e2
  go_wp2_with fail
  go_loopw [5, 6] (fun x i wr => ∃ (k : Nat) (a3 : Option Addr) (c3 : Nat) (us : List Int), k ≤ m.length ∧ i = .int .i64 k ∧ x = .slice a3 us.length c3 ∧ Hid (us = redTo m v k) ∧ OwnI wr w.heap.size a3 c3 us ∧ Ext w2 wr) (fun _ i _ => m.length - (intOf i).toNat)
  case atStart => exact ⟨0, a2, c2, v, Nat.zero_le _, rfl, rfl, rfl, o3, Ext.refl _⟩
  case round =>
    clear o3
    obtain ⟨k, a3, c3, us, hk, rfl, rfl, HU, ho, he⟩ := hrel
    have huo := redTo_ok HR.out.1 HV.out HL.out k hk
    rw [← HU.out] at huo
    have HUL : Hid (us.length = n.toNat) := huo.2
    have HUE := Lib.hid huo.1
    have hul : us.length ≤ 40 := by omega
    have EW := E2.trans he
    have d1 := he.cell c1
    clear huo
    by_cases hlt : k < m.length
    · obtain ⟨b1, o1, ra, rc, xs, rfl, hb, hx, hc, hrow⟩ := (h.ext EW).at_ hlt
      have hxs : Hid (m.getD k [] = xs) := getD_some hx.out
      have hrk := HR.out.1.getD hlt
      have hlk := HR.out.ld_lt hlt
      rw [hxs.out] at hrk hlk
      obtain ⟨p, hp⟩ : ∃ p, Hid (ld xs = p) := ⟨_, rfl⟩
      rw [hp.out] at hlk
      have hxl : xs.length ≤ 40 := hrk.2.2
      have HRK := Lib.hid hrk
      have HP : Hid (leadI xs = (p : Int)) := leadI_nat hp.out (by rw [HRK.out.2.1]; exact hlk)
      have hpu : p < us.length := by rw [HUL.out]; exact hlk
      obtain ⟨g, rfl, _, _, _⟩ := (OI.of ho).form (by omega)
      have hcx := (OI.of ho).cellAt (ent_get hpu)
      obtain ⟨x, hx'⟩ : ∃ x, Hid (x = ent us p) := ⟨_, rfl⟩
      rw [← hx'.out] at hcx
      have HX : Hid (inR x 0 1018 = true) := by rw [hx'.out]; exact inR_true.2 (ent_range HUE.out p)
      obtain ⟨z, hz⟩ : ∃ z, Hid (z = (1019 - x) % 1019) := ⟨_, rfl⟩
      have HZ : Hid ((0 - x) % 1019 = z) := by rw [hz.out]; exact Lib.hid (by omega)
      have HZR : Hid (inR z 0 1018 = true) := inR_true.2 (by rw [hz.out]; omega)
      obtain ⟨ys, hys⟩ : ∃ ys, Hid (ys = redTo m v (k + 1)) := ⟨_, rfl⟩
      have HS : Hid (addS us xs z = ys) := by rw [hys.out, redTo, ← HU.out, hxs.out, hp.out, hz.out, hx'.out]; exact Lib.hid rfl
      have C1 : Hid (∀ W : World, Ext wr W → Calls Try.prog 77 #[.slice (some ⟨g, 0, none⟩) us.length c3, .slice ra xs.length rc, .int .i64 z] W (NewI W ys)) := fun W hW => by
        rw [← HS.out]
        exact specAddScaled_ok _ _ _ _ _ _ _ W (ho.vals.ext hW) (hrow.ext hW) (validV_true.2 ⟨HUE.out, hul⟩) (validV_true.2 ⟨HRK.out.1, hxl⟩) (by rw [HUL.out, HRK.out.2.1]) HZR.out
      have C2 : Hid (∀ W : World, Ext wr W → Calls Try.prog 70 #[.slice ra xs.length rc] W fun e w' => e = .returned (.int .i64 (p : Int)) ∧ W = w') := fun W hW => by rw [← HP.out]; exact specLeadingIndex_ok _ _ _ _ (hrow.ext hW) (by omega)
      have C3 : Hid (∀ W : World, Calls Try.prog 78 #[.int .i64 0, .int .i64 x] W fun e w' => e = .returned (.int .i64 z) ∧ W = w') := fun W => by rw [← HZ.out]; exact specSubField_ok 0 x W rfl HX.out
      have i1 : (0 : Int) ≤ (k : Int) := by omega
      have i2 : (k : Int) < (m.length : Int) := by omega
      have i3 : (0 : Int) ≤ (p : Int) := by omega
      have i4 : (p : Int) < (us.length : Int) := by omega
      clear hrk
      go_wp2_with fail
      go_region_held3 (fun w' => w'.cell? ⟨w.heap.size, 1, none⟩ = some (.slice (some ⟨b1, o1, none⟩) m.length c) ∧ w'.cell? ⟨b1, o1 + k, none⟩ = some (.slice ra xs.length rc) ∧ w'.cell? ⟨g, p, none⟩ = some (.int .i64 x))
        (first | go_keep | exact ⟨e4.cell d1, e4.cell hc, e4.cell hcx⟩)
        (first
          | (go_at_call 70; (with_reducible refine (C2.out _ (Ext.refl wr).drew).mono ?_); rintro e w3 ⟨rfl, rfl⟩)
          | (go_at_call 78; (with_reducible refine (C3.out _).mono ?_); rintro e w3 ⟨rfl, rfl⟩)
          | (go_at_call 77; (with_reducible refine (C1.out _ (Ext.refl wr).drew).mono ?_); rintro e w4 ⟨a4, c4, rfl, o4, e4⟩))
      have e4' : Ext wr w4 := (Ext.refl wr).drew.trans e4
      have o5 := o4.more (B' := w.heap.size) EW.size_le
      have E4 := he.trans e4'
      clear C1 C2 C3 o4 e4 e4' he ho
      go_wp2_with fail
      go_roundw
      case rel => exact ⟨k + 1, a4, c4, ys, by omega, by go_num, rfl, hys, o5, E4⟩
      case measure => simp [intOf]; omega
    · obtain rfl : k = m.length := by omega
      have hfin : Hid (us = redV m v) := by rw [HU.out]; exact Lib.hid rfl
      go_wp2_with fail
      go_ret
      rw [HF.out, ← hfin.out]
      exact ⟨a3, c3, rfl, ho, EW⟩

set_option maxHeartbeats 4000000 in
theorem implContainsVector_ok (n : Int) (a : Option Addr) (c : Nat) (m : List (List Int)) (b : Option Addr) (d : Nat) (v : List Int) (w : World) (h : MatR w a m) (h' : Vals w b (I v)) (hl : m.length ≤ 1048576) (hr : ∀ xs ∈ m, xs.length ≤ 1048576) (hl' : v.length ≤ 1048576) :
    Calls Try.prog 116 #[bsV n a c m, .slice b v.length d] w (Gives w (.bool (cvB n m v))) := by
  have E : Ext w (w.alloc (.cells #[.int .i64 n, .slice a m.length c] 46)) := (Ext.refl w).alloc _
  have Q := Lib.hid (takes_ok n a c m b d v _ (h.ext E) (h'.ext E) hl hr hl')
  have HE := Lib.hid E
  have HR := Lib.hid hr
  clear hr E
  cases q1 : fitsB n m v
  · have HF : Hid (cvB n m v = false) := by unfold cvB; rw [q1]; exact Lib.hid rfl
    rw [q1] at Q
    go_enter Try.func116, Try.ntmps116
    go_wp2_with fail
    (with_reducible refine Q.out.mono ?_)
    rintro e w1 ⟨rfl, e1⟩
    go_wp2_with fail
    go_ret
    rw [HF.out]
    exact ⟨rfl, HE.out.trans e1⟩
  · have HF : Hid (cvB n m v = decide (leadI (redV m v) < 0)) := by unfold cvB; rw [q1]; exact Lib.hid rfl
    have HRV : Hid (rvB n m v = redV m v) := by unfold rvB; rw [q1]; exact Lib.hid rfl
    have HP := Lib.hid (fitsB_parts q1)
    have HC : Hid (∀ W, Ext w W → Calls Try.prog 134 #[bsV n a c m, .slice b v.length d] W (NewI W (redV m v))) := fun W hW => reduce_ok _ _ _ m _ _ v n.toNat _ (h.ext hW) (h'.ext hW) HP.out.1 HP.out.2.1 HP.out.2.2.1 HP.out.2.2.2.1 (by omega)
    have hul := (redV_ok HP.out.1.1 HP.out.2.1 HP.out.2.2.1).2
    have hvl : (redV m v).length ≤ 40 := by rw [hul]; exact HP.out.2.2.2.1
    obtain ⟨us, hus⟩ : ∃ us, Hid (us = redV m v) := ⟨_, rfl⟩
    rw [← hus.out] at hvl HF HRV HC
    rw [q1] at Q
    clear q1 hul
    go_enter Try.func116, Try.ntmps116
    go_wp2_with fail
    (with_reducible refine Q.out.mono ?_)
    rintro e w1 ⟨rfl, e1⟩
    have E1 := HE.out.trans e1
    have c0 := e1.cell (p := ⟨w.heap.size, 0, none⟩) (v := .int .i64 n) (by simp)
    have c1 := e1.cell (p := ⟨w.heap.size, 1, none⟩) (v := .slice a m.length c) (by simp)
    have CS := Lib.hid (specReduceVector_ok n a c m b d v w1 (h.ext E1) (h'.ext E1) hl HR.out hl')
    rw [HRV.out] at CS
    go_wp2_with fail
    (with_reducible refine (HC.out _ E1).mono ?_)
    rintro e w2 ⟨a2, c2, rfl, o2, e2⟩
    go_wp2_with (go_at_call 39; (with_reducible refine (implLeadingIndex_ok _ _ _ _ o2.vals (by omega)).mono ?_); rintro e w' ⟨rfl, rfl⟩)
    go_ret
    rw [HF.out]
    exact ⟨rfl, E1.trans e2⟩

set_option maxHeartbeats 4000000 in
theorem specContainsVector_ok (n : Int) (a : Option Addr) (c : Nat) (m : List (List Int)) (b : Option Addr) (d : Nat) (v : List Int) (w : World) (h : MatR w a m) (h' : Vals w b (I v)) (hl : m.length ≤ 1048576) (hr : ∀ xs ∈ m, xs.length ≤ 1048576) (hl' : v.length ≤ 1048576) :
    Calls Try.prog 53 #[bsV n a c m, .slice b v.length d] w (Gives w (.bool (cvB n m v))) := by
  have E : Ext w (w.alloc (.cells #[.int .i64 n, .slice a m.length c] 46)) := (Ext.refl w).alloc _
  have Q := Lib.hid (specFits_ok n a c m b d v _ (h.ext E) (h'.ext E) hl hr hl')
  have HE := Lib.hid E
  have HR := Lib.hid hr
  clear hr E
  cases q1 : fitsB n m v
  · have HF : Hid (cvB n m v = false) := by unfold cvB; rw [q1]; exact Lib.hid rfl
    rw [q1] at Q
    go_enter Try.func53, Try.ntmps53
    go_wp2_with fail
    (with_reducible refine Q.out.mono ?_)
    rintro e w1 ⟨rfl, e1⟩
    go_wp2_with fail
    go_ret
    rw [HF.out]
    exact ⟨rfl, HE.out.trans e1⟩
  · have HF : Hid (cvB n m v = decide (leadI (redV m v) < 0)) := by unfold cvB; rw [q1]; exact Lib.hid rfl
    have HRV : Hid (rvB n m v = redV m v) := by unfold rvB; rw [q1]; exact Lib.hid rfl
    have HP := Lib.hid (fitsB_parts q1)
    have HC : Hid (∀ W, Ext w W → Calls Try.prog 134 #[bsV n a c m, .slice b v.length d] W (NewI W (redV m v))) := fun W hW => reduce_ok _ _ _ m _ _ v n.toNat _ (h.ext hW) (h'.ext hW) HP.out.1 HP.out.2.1 HP.out.2.2.1 HP.out.2.2.2.1 (by omega)
    have hul := (redV_ok HP.out.1.1 HP.out.2.1 HP.out.2.2.1).2
    have hvl : (redV m v).length ≤ 40 := by rw [hul]; exact HP.out.2.2.2.1
    obtain ⟨us, hus⟩ : ∃ us, Hid (us = redV m v) := ⟨_, rfl⟩
    rw [← hus.out] at hvl HF HRV HC
    rw [q1] at Q
    clear q1 hul
    go_enter Try.func53, Try.ntmps53
    go_wp2_with fail
    (with_reducible refine Q.out.mono ?_)
    rintro e w1 ⟨rfl, e1⟩
    have E1 := HE.out.trans e1
    have c0 := e1.cell (p := ⟨w.heap.size, 0, none⟩) (v := .int .i64 n) (by simp)
    have c1 := e1.cell (p := ⟨w.heap.size, 1, none⟩) (v := .slice a m.length c) (by simp)
    have CS := Lib.hid (specReduceVector_ok n a c m b d v w1 (h.ext E1) (h'.ext E1) hl HR.out hl')
    rw [HRV.out] at CS
    go_wp2_with fail
    (with_reducible refine (CS.out).mono ?_)
    rintro e w2 ⟨a2, c2, rfl, o2, e2⟩
    go_wp2_with (go_at_call 70; (with_reducible refine (specLeadingIndex_ok _ _ _ _ o2.vals (by omega)).mono ?_); rintro e w' ⟨rfl, rfl⟩)
    go_ret
    rw [HF.out]
    exact ⟨rfl, E1.trans e2⟩

/-- Two bases of one width. -/
def pairB (n : Int) (m : List (List Int)) (n' : Int) (m' : List (List Int)) : Bool := validB n m && (validB n' m' && decide (n = n'))

def subB (n : Int) (m : List (List Int)) (n' : Int) (m' : List (List Int)) : Bool := pairB n m n' m' && m.all (fun r => decide (leadI (redV m' r) < 0))
theorem pairB_parts {n : Int} {m : List (List Int)} {n' : Int} {m' : List (List Int)} (h : pairB n m n' m' = true) : VR n.toNat m ∧ RM n'.toNat m' ∧ n = n' ∧ n.toNat ≤ 40 ∧ m.length ≤ 40 ∧ m'.length ≤ 40 ∧ 0 ≤ n ∧ validB n' m' = true := by
  unfold pairB at h
  simp only [Bool.and_eq_true, decide_eq_true_eq] at h
  have h1 := validB_true.1 h.1
  have h2 := validB_true.1 h.2.1
  exact ⟨h1.2.2.1.1, h2.2.2.1, h.2.2, by omega, h1.2.2.2, h2.2.2.2, h1.1, h.2.1⟩
theorem subB_no {n : Int} {m : List (List Int)} {n' : Int} {m' : List (List Int)} {xs : List Int} (hx : xs ∈ m) (h : ¬ leadI (redV m' xs) < 0) : subB n m n' m' = false := by
  unfold subB
  have : m.all (fun r => decide (leadI (redV m' r) < 0)) = false := by
    rw [List.all_eq_false]
    exact ⟨xs, hx, by simpa using h⟩
  rw [this, Bool.and_false]
theorem subB_yes {n : Int} {m : List (List Int)} {n' : Int} {m' : List (List Int)} (hp : pairB n m n' m' = true) (h : ∀ xs ∈ m, leadI (redV m' xs) < 0) : subB n m n' m' = true := by
  unfold subB
  rw [hp, Bool.true_and, List.all_eq_true]
  exact fun x hx => by simpa using h x hx
theorem fitsB_of {n : Int} {m' : List (List Int)} {xs : List Int} (hv : validB n m' = true) (h0 : 0 ≤ n) (h1 : AllEl xs) (h2 : xs.length = n.toNat) (h3 : n.toNat ≤ 40) : fitsB n m' xs = true := by
  unfold fitsB
  rw [hv, validV_true.2 ⟨h1, by omega⟩, decide_eq_true (by omega)]
  rfl
theorem mem_take_snoc {α : Type} {l : List α} {k : Nat} {x : α} {P : α → Prop} (h : ∀ y ∈ l.take k, P y) (hx : l[k]? = some x) (hp : P x) : ∀ y ∈ l.take (k + 1), P y := by
  intro y hy
  rw [List.take_add_one, hx] at hy
  rcases List.mem_append.1 hy with hy | hy
  · exact h y hy
  · simp at hy; subst hy; exact hp

end Go.Proofs.Ytninamlcffemoaa
