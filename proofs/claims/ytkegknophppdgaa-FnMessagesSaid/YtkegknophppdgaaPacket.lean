/- Contracts of the functions over coded packets that only read: szIntS, szCodedPacket, toCodedPacket, eqCodedPacket, IsZeroPacket, EqualPackets, IsValidPacket. -/
import Derived.Test.YtkegknophppdgaaVec
import Derived.Test.YtkegknophppdgaaOwn
import Derived.Test.YtkegknophppdgaaVals
namespace Go.Proofs.Ytkegknophppdgaa
open Go.RowKit
set_option linter.unusedVariables false
set_option maxRecDepth 20000

/-- What is left of an allowance: below 0 stands for 'too long'. -/
def szI (xs : List Int) (left : Int) : Int := if left - xs.length < 0 then -1 else left - xs.length

theorem szIntS_ok (a : Option Addr) (c : Nat) (xs : List Int) (left : Int) (w : World) (hm : xs.length ≤ maxLen) (h0 : 0 ≤ left) (h1 : left ≤ 1048576) :
    Calls Try.prog 110 #[.slice a xs.length c, .int .i64 left] w fun e w' => e = .returned (.int .i64 (szI xs left)) ∧ w = w' := by
  unfold maxLen at hm
  by_cases hn : left - xs.length < 0
  · go_enter Try.func110, Try.ntmps110
    go_wp2
    go_ret
    exact ⟨ret_int (by unfold szI; rw [if_pos hn]), rfl⟩
  · go_enter Try.func110, Try.ntmps110
    go_wp2
    go_ret
    exact ⟨ret_int (by unfold szI; rw [if_neg (by omega)]), rfl⟩

theorem szI_le {xs : List Int} {left : Int} (h : 0 ≤ szI xs left) : (xs.length : Int) ≤ left ∧ szI xs left = left - xs.length := by
  unfold szI at h ⊢
  split at h
  · omega
  · rename_i h'; rw [if_neg h']; omega

def szPk (xs ys : List Int) (left : Int) : Int := if szI xs left < 0 then -1 else szI ys (szI xs left)

theorem szCodedPacket_ok (n : Int) (a : Option Addr) (c : Nat) (xs : List Int) (b : Option Addr) (d : Nat) (ys : List Int) (left : Int) (w : World) (hm : xs.length ≤ maxLen) (hm' : ys.length ≤ maxLen) (h0 : 0 ≤ left) (h1 : left ≤ 1048576) :
    Calls Try.prog 99 #[pkV n a c xs b d ys, .int .i64 left] w (Gives w (.int .i64 (szPk xs ys left))) := by
  by_cases hn : szI xs left < 0
  · go_enter Try.func99, Try.ntmps99
    go_wp2_with (go_at_call 110; refine (szIntS_ok _ _ _ _ _ hm h0 h1).mono ?_; rintro e w' ⟨rfl, rfl⟩)
    go_ret
    exact ⟨ret_int (by unfold szPk; rw [if_pos hn]), (Ext.refl w).alloc _⟩
  · have hs : szI xs left ≤ 1048576 := by unfold szI; split <;> omega
    have hs0 : 0 ≤ szI xs left := by omega
    by_cases hn2 : szI ys (szI xs left) < 0
    · go_enter Try.func99, Try.ntmps99
      go_wp2_with fail
      refine (szIntS_ok _ _ _ _ _ hm h0 h1).mono ?_
      rintro e w' ⟨rfl, rfl⟩
      go_wp2_with fail
      refine (szIntS_ok _ _ _ _ _ hm' hs0 hs).mono ?_
      rintro e w' ⟨rfl, rfl⟩
      go_wp2_with fail
      go_ret
      exact ⟨ret_int (by have : szI ys (szI xs left) = -1 := (by unfold szI at hn2 ⊢; split at hn2 <;> first | rfl | omega); unfold szPk; rw [if_neg (by omega), this]), (Ext.refl w).alloc _⟩
    · go_enter Try.func99, Try.ntmps99
      go_wp2_with fail
      refine (szIntS_ok _ _ _ _ _ hm h0 h1).mono ?_
      rintro e w' ⟨rfl, rfl⟩
      go_wp2_with fail
      refine (szIntS_ok _ _ _ _ _ hm' hs0 hs).mono ?_
      rintro e w' ⟨rfl, rfl⟩
      go_wp2_with fail
      go_ret
      exact ⟨ret_int (by unfold szPk; rw [if_neg (by omega)]), (Ext.refl w).alloc _⟩

theorem szPk_le {xs ys : List Int} {left : Int} (h : 0 ≤ szPk xs ys left) : (xs.length : Int) + ys.length ≤ left ∧ szPk xs ys left = left - xs.length - ys.length := by
  unfold szPk at h ⊢
  split at h
  · omega
  · rename_i h'
    rw [if_neg h']
    have h1 := szI_le (Int.not_lt.1 h')
    have h2 := szI_le h
    omega

/-- A call hands back a new packet. -/
def NewPk (w : World) (n : Int) (xs ys : List Int) (e : Ending) (w' : World) : Prop :=
  ∃ a c b d, e = .returned (pkV n a c xs b d ys) ∧ OwnI w' w.heap.size a c xs ∧ OwnI w' w.heap.size b d ys ∧ Apart a b ∧ Ext w w'

/-- The two slices of a packet, in a range, each in a block of its own. -/
structure OPk (w : World) (B B2 : Nat) (a : Option Addr) (c : Nat) (xs : List Int) (b : Option Addr) (d : Nat) (ys : List Int) : Prop where
  left : OI w B B2 a c xs
  right : OI w B B2 b d ys
  apart : Apart a b
section
variable {w w' : World} {B B2 C C2 : Nat} {a b : Option Addr} {c d : Nat} {xs ys : List Int}
theorem OPk.of (h1 : OwnI w B a c xs) (h2 : OwnI w B b d ys) (h3 : Apart a b) : OPk w B w.heap.size a c xs b d ys := ⟨OI.of h1, OI.of h2, h3⟩
theorem OPk.one (h : OPk w B B2 a c xs b d ys) : Vals w a (I xs) := h.left.vals
theorem OPk.two (h : OPk w B B2 a c xs b d ys) : Vals w b (I ys) := h.right.vals
theorem OPk.ext (h : OPk w B B2 a c xs b d ys) (he : Ext w w') : OPk w' B B2 a c xs b d ys := ⟨h.left.ext he, h.right.ext he, h.apart⟩
theorem OPk.span (h : OPk w B B2 a c xs b d ys) (hs : Span C C2 w w') (hd : B2 ≤ C ∨ C2 ≤ B) : OPk w' B B2 a c xs b d ys := ⟨h.left.span hs hd, h.right.span hs hd, h.apart⟩
end

set_option maxHeartbeats 400000 in
theorem toCodedPacket_ok (n : Int) (a : Option Addr) (c : Nat) (xs : List Int) (b : Option Addr) (d : Nat) (ys : List Int) (w : World) (h : Vals w a (I xs)) (h' : Vals w b (I ys)) (hl : xs.length ≤ 1048576) (hl' : ys.length ≤ 1048576) :
    Calls Try.prog 101 #[pkV n a c xs b d ys] w (NewPk w n xs ys) := by
  go_enter Try.func101, Try.ntmps101
  go_wp2_with fail
  refine (toIntS_ok _ _ _ _ (h.ext ((((Ext.refl w).alloc _).alloc _).alloc _)) hl).mono ?_
  rintro e w1 ⟨a1, c1, rfl, o1, e1⟩
  have e01 := ((((Ext.refl w).alloc _).alloc _).alloc _).trans e1
  obtain ⟨k1, f1⟩ := e1.look
  simp at o1 k1 f1
  have z1 := e1.size_le
  simp at z1
  go_wp2_with fail
  refine (toIntS_ok _ _ _ _ (h'.ext (e01.setCell (p := ⟨w.heap.size + 1 + 1, 1, none⟩) (by simp; omega) _)) hl').mono ?_
  rintro e w2 ⟨a2, c2, rfl, o2, e2⟩
  have e02 := (e01.setCell (p := ⟨w.heap.size + 1 + 1, 1, none⟩) (by simp; omega) _).trans e2
  have o1' := (o1.setCell (p := ⟨w.heap.size + 1 + 1, 1, none⟩) (by simp) (.slice a1 xs.length c1)).ext e2
  obtain ⟨k2, f2⟩ := e2.look
  simp at o2 k2 f2
  have z2 : w.heap.size < w1.heap.size ∧ w.heap.size + 1 < w1.heap.size ∧ w.heap.size + 1 + 1 < w1.heap.size := ⟨by omega, by omega, by omega⟩
  obtain ⟨z3, z4, z5⟩ := z2
  go_wp2_with fail
  refine bodyPost_ret (v := pkV n a1 c1 xs a2 c2 ys) (by simp only [results, Try.results101]; go_simp) rfl ⟨a1, c1, a2, c2, rfl, ?_, ?_, ?_, ?_⟩
  · exact ((((o1'.setCell (by simp) _).setCell (by simp) _).setCell (by simp) _).setCell (by simp) _).more (by omega)
  · exact ((((o2.setCell (by simp; omega) _).setCell (by simp; omega) _).setCell (by simp; omega) _).setCell (by simp; omega) _).more (by omega)
  · intro k h1 h2
    have := o1.block k h1
    have := o2.block k h2
    omega
  · exact (((e02.setCell (by simp; omega) _).setCell (by simp) _).setCell (by simp) _).setCell (by simp) _

def eqPk (n : Int) (xs ys : List Int) (n' : Int) (xs' ys' : List Int) : Bool := decide (n = n') && (decide (xs = xs') && decide (ys = ys'))
theorem eqPk_self (n : Int) (xs ys : List Int) : eqPk n xs ys n xs ys = true := by simp [eqPk]

theorem not_ne_of {n m : Int} (h : n = m) : (n != m) = false := by simp [h]
theorem eq_of {n m : Int} (h : n = m) : (n == m) = true := by simp [h]
theorem ne_of {n m : Int} (h : ¬ n = m) : (n != m) = true := by simp [h]
theorem not_eq_of {n m : Int} (h : ¬ n = m) : (n == m) = false := by simp [h]

set_option maxHeartbeats 400000 in
theorem eqCodedPacket_ok (n : Int) (a : Option Addr) (c : Nat) (xs : List Int) (b : Option Addr) (d : Nat) (ys : List Int) (n' : Int) (a' : Option Addr) (c' : Nat) (xs' : List Int) (b' : Option Addr) (d' : Nat) (ys' : List Int) (w : World)
    (h1 : Vals w a (I xs)) (h2 : Vals w b (I ys)) (h3 : Vals w a' (I xs')) (h4 : Vals w b' (I ys')) (hl : xs.length ≤ 1048576) (hl' : ys.length ≤ 1048576) :
    Calls Try.prog 28 #[pkV n a c xs b d ys, pkV n' a' c' xs' b' d' ys'] w (Gives w (.bool (eqPk n xs ys n' xs' ys'))) := by
  by_cases hn : n = n'
  · have hn1 := not_ne_of hn
    have HN : Hid (decide (n = n') = true) := decide_eq_true hn
    clear hn
    go_enter Try.func28, Try.ntmps28
    go_wp2_with fail
    refine (eqIntS_ok _ _ _ _ _ _ _ (h1.ext (((Ext.refl w).alloc _).alloc _)) (h3.ext (((Ext.refl w).alloc _).alloc _)) (by omega)).mono ?_
    rintro e w1 ⟨rfl, m, rfl⟩
    cases hx : decide (xs = xs')
    · have HX := Lib.hid hx
      clear hx
      go_wp2_with fail
      go_ret
      exact ⟨ret_bool (by unfold eqPk; rw [HX.out, Bool.false_and, Bool.and_false]), (((Ext.refl w).alloc _).alloc _).drewN _⟩
    · have HX := Lib.hid hx
      clear hx
      go_wp2_with fail
      refine (eqIntS_ok _ _ _ _ _ _ _ (h2.ext ((((Ext.refl w).alloc _).alloc _).drewN _)) (h4.ext ((((Ext.refl w).alloc _).alloc _).drewN _)) (by omega)).mono ?_
      rintro e w1 ⟨rfl, m', rfl⟩
      cases hy : decide (ys = ys')
      all_goals
        have HY := Lib.hid hy
        clear hy
        go_wp2_with fail
        go_ret
        exact ⟨ret_bool (by unfold eqPk; rw [HN.out, HX.out, HY.out]; rfl), (((Ext.refl w).alloc _).alloc _).drewN _⟩
  · have hn1 := ne_of hn
    have HN : Hid (decide (n = n') = false) := decide_eq_false hn
    clear hn
    go_enter Try.func28, Try.ntmps28
    go_wp2_with fail
    go_ret
    exact ⟨ret_bool (by unfold eqPk; rw [HN.out, Bool.false_and]), ((Ext.refl w).alloc _).alloc _⟩

set_option maxHeartbeats 400000 in
theorem implEqualPackets_ok (n : Int) (a : Option Addr) (c : Nat) (xs : List Int) (b : Option Addr) (d : Nat) (ys : List Int) (n' : Int) (a' : Option Addr) (c' : Nat) (xs' : List Int) (b' : Option Addr) (d' : Nat) (ys' : List Int) (w : World)
    (h1 : Vals w a (I xs)) (h2 : Vals w b (I ys)) (h3 : Vals w a' (I xs')) (h4 : Vals w b' (I ys')) (hl : xs.length ≤ 1048576) (hl' : ys.length ≤ 1048576) :
    Calls Try.prog 131 #[pkV n a c xs b d ys, pkV n' a' c' xs' b' d' ys'] w (Gives w (.bool (eqPk n xs ys n' xs' ys'))) := by
  by_cases hn : n = n'
  · have hn1 := eq_of hn
    have HN : Hid (decide (n = n') = true) := decide_eq_true hn
    clear hn
    go_enter Try.func131, Try.ntmps131
    go_wp2_with fail
    refine (slicesEqual_ok _ _ _ _ _ _ _ (h1.ext (((Ext.refl w).alloc _).alloc _)) (h3.ext (((Ext.refl w).alloc _).alloc _)) (by omega)).mono ?_
    rintro e w1 ⟨rfl, m, rfl⟩
    cases hx : decide (xs = xs')
    · have HX := Lib.hid hx
      clear hx
      go_wp2_with fail
      go_ret
      exact ⟨ret_bool (by unfold eqPk; rw [HX.out, Bool.false_and, Bool.and_false]), (((Ext.refl w).alloc _).alloc _).drewN _⟩
    · have HX := Lib.hid hx
      clear hx
      go_wp2_with fail
      refine (slicesEqual_ok _ _ _ _ _ _ _ (h2.ext ((((Ext.refl w).alloc _).alloc _).drewN _)) (h4.ext ((((Ext.refl w).alloc _).alloc _).drewN _)) (by omega)).mono ?_
      rintro e w1 ⟨rfl, m', rfl⟩
      cases hy : decide (ys = ys')
      all_goals
        have HY := Lib.hid hy
        clear hy
        go_wp2_with fail
        go_ret
        exact ⟨ret_bool (by unfold eqPk; rw [HN.out, HX.out, HY.out]; rfl), (((Ext.refl w).alloc _).alloc _).drewN _⟩
  · have hn1 := not_eq_of hn
    have HN : Hid (decide (n = n') = false) := decide_eq_false hn
    clear hn
    go_enter Try.func131, Try.ntmps131
    go_wp2_with fail
    go_ret
    exact ⟨ret_bool (by unfold eqPk; rw [HN.out, Bool.false_and]), ((Ext.refl w).alloc _).alloc _⟩

def fmtOk (g s d : Int) : Bool := inR g 0 1000000000000 && (inR s 1 8 && inR d 1 16)

theorem isFormat_ok (g s d : Int) (w : World) :
    Calls Try.prog 130 #[.int .i64 g, .int .i64 s, .int .i64 d] w fun e w' => e = .returned (.bool (fmtOk g s d)) ∧ w = w' := by
  cases h1 : inR g 0 1000000000000
  · go_enter Try.func130, Try.ntmps130
    go_wp2_with (go_at_call 96; refine (implInRange_ok _ _ _ _).mono ?_; rintro e w' ⟨rfl, rfl⟩)
    go_ret
    exact ⟨ret_bool (by unfold fmtOk; rw [h1]; rfl), rfl⟩
  · cases h2 : inR s 1 8
    · go_enter Try.func130, Try.ntmps130
      go_wp2_with (go_at_call 96; refine (implInRange_ok _ _ _ _).mono ?_; rintro e w' ⟨rfl, rfl⟩)
      go_ret
      exact ⟨ret_bool (by unfold fmtOk; rw [h1, h2]; rfl), rfl⟩
    · cases h3 : inR d 1 16
      all_goals
        go_enter Try.func130, Try.ntmps130
        go_wp2_with (go_at_call 96; refine (implInRange_ok _ _ _ _).mono ?_; rintro e w' ⟨rfl, rfl⟩)
        go_ret
        exact ⟨ret_bool (by unfold fmtOk; rw [h1, h2, h3]; rfl), rfl⟩

def validPk (g : Int) (xs ys : List Int) (s d : Int) : Bool := fmtOk g s d && (decide ((xs.length : Int) = s) && (decide ((ys.length : Int) = d) && (validV xs && validV ys)))

set_option maxHeartbeats 1000000 in
theorem implIsValidPacket_ok (n : Int) (a : Option Addr) (c : Nat) (xs : List Int) (b : Option Addr) (d : Nat) (ys : List Int) (s t : Int) (w : World) (h1 : Vals w a (I xs)) (h2 : Vals w b (I ys)) (hl : xs.length ≤ 1048576) (hl' : ys.length ≤ 1048576) :
    Calls Try.prog 69 #[pkV n a c xs b d ys, .int .i64 s, .int .i64 t] w (Gives w (.bool (validPk n xs ys s t))) := by
  have hA := h1.ext ((Ext.refl w).alloc (.cells #[.int .i64 n, .slice a xs.length c, .slice b ys.length d] 35))
  have hB := h2.ext ((Ext.refl w).alloc (.cells #[.int .i64 n, .slice a xs.length c, .slice b ys.length d] 35))
  have fin : ∀ B : Bool, B = validPk n xs ys s t → Gives w (.bool (validPk n xs ys s t)) (.returned (.bool B)) (w.alloc (.cells #[.int .i64 n, .slice a xs.length c, .slice b ys.length d] 35)) := fun B h => ⟨ret_bool h, (Ext.refl w).alloc _⟩
  have FIN := Lib.hid fin
  clear fin h1 h2
  cases q1 : fmtOk n s t
  · go_enter Try.func69, Try.ntmps69
    go_wp2_with (go_at_call 130; refine (isFormat_ok _ _ _ _).mono ?_; rintro e w' ⟨rfl, rfl⟩)
    go_ret
    exact FIN.out _ (by unfold validPk; rw [q1]; rfl)
  · by_cases hx : (xs.length : Int) = s
    · have hx1 := eq_of hx
      have HX : Hid (decide ((xs.length : Int) = s) = true) := decide_eq_true hx
      clear hx
      by_cases hy : (ys.length : Int) = t
      · have hy1 := eq_of hy
        have HY : Hid (decide ((ys.length : Int) = t) = true) := decide_eq_true hy
        clear hy
        cases q2 : validV xs
        · go_enter Try.func69, Try.ntmps69
          go_wp2_with (first | (go_at_call 130; refine (isFormat_ok _ _ _ _).mono ?_; rintro e w' ⟨rfl, rfl⟩) | (go_at_call 120; refine (implIsValidVector_ok _ _ _ _ hA (by omega)).mono ?_; rintro e w' ⟨rfl, rfl⟩))
          go_ret
          exact FIN.out _ (by unfold validPk; rw [q1, HX.out, HY.out, q2]; rfl)
        · cases q3 : validV ys
          all_goals
            go_enter Try.func69, Try.ntmps69
            go_wp2_with (go_at_call 130; refine (isFormat_ok _ _ _ _).mono ?_; rintro e w' ⟨rfl, rfl⟩)
            refine (implIsValidVector_ok _ _ _ _ hA (by omega)).mono ?_
            rintro e w' ⟨rfl, rfl⟩
            go_wp2_with fail
            refine (implIsValidVector_ok _ _ _ _ hB (by omega)).mono ?_
            rintro e w' ⟨rfl, rfl⟩
            go_wp2_with fail
            go_ret
            exact FIN.out _ (by unfold validPk; rw [q1, HX.out, HY.out, q2, q3]; rfl)
      · have hy1 := not_eq_of hy
        have HY : Hid (decide ((ys.length : Int) = t) = false) := decide_eq_false hy
        clear hy
        go_enter Try.func69, Try.ntmps69
        go_wp2_with (go_at_call 130; refine (isFormat_ok _ _ _ _).mono ?_; rintro e w' ⟨rfl, rfl⟩)
        go_ret
        exact FIN.out _ (by unfold validPk; rw [q1, HX.out, HY.out]; rfl)
    · have hx1 := not_eq_of hx
      have HX : Hid (decide ((xs.length : Int) = s) = false) := decide_eq_false hx
      clear hx
      go_enter Try.func69, Try.ntmps69
      go_wp2_with (go_at_call 130; refine (isFormat_ok _ _ _ _).mono ?_; rintro e w' ⟨rfl, rfl⟩)
      go_ret
      exact FIN.out _ (by unfold validPk; rw [q1, HX.out]; rfl)

theorem fmtOk_cases (g s d : Int) : (inR g 0 1000000000000 = false ∧ fmtOk g s d = false) ∨ (inR g 0 1000000000000 = true ∧ inR s 1 8 = false ∧ fmtOk g s d = false) ∨ (inR g 0 1000000000000 = true ∧ inR s 1 8 = true ∧ inR d 1 16 = false ∧ fmtOk g s d = false) ∨
    (inR g 0 1000000000000 = true ∧ inR s 1 8 = true ∧ inR d 1 16 = true ∧ fmtOk g s d = true) := by
  unfold fmtOk
  cases inR g 0 1000000000000 <;> cases inR s 1 8 <;> cases inR d 1 16 <;> simp

set_option maxHeartbeats 1000000 in
theorem specIsValidPacket_ok (n : Int) (a : Option Addr) (c : Nat) (xs : List Int) (b : Option Addr) (d : Nat) (ys : List Int) (s t : Int) (w : World) (h1 : Vals w a (I xs)) (h2 : Vals w b (I ys)) (hl : xs.length ≤ 1048576) (hl' : ys.length ≤ 1048576) :
    Calls Try.prog 150 #[pkV n a c xs b d ys, .int .i64 s, .int .i64 t] w (Gives w (.bool (validPk n xs ys s t))) := by
  have hA := h1.ext ((Ext.refl w).alloc (.cells #[.int .i64 n, .slice a xs.length c, .slice b ys.length d] 35))
  have hB := h2.ext ((Ext.refl w).alloc (.cells #[.int .i64 n, .slice a xs.length c, .slice b ys.length d] 35))
  have fin : ∀ B : Bool, B = validPk n xs ys s t → Gives w (.bool (validPk n xs ys s t)) (.returned (.bool B)) (w.alloc (.cells #[.int .i64 n, .slice a xs.length c, .slice b ys.length d] 35)) := fun B h => ⟨ret_bool h, (Ext.refl w).alloc _⟩
  have FIN := Lib.hid fin
  clear fin h1 h2
  rcases fmtOk_cases n s t with ⟨p1, Q⟩ | ⟨p1, p2, Q⟩ | ⟨p1, p2, p3, Q⟩ | ⟨p1, p2, p3, Q⟩
  · have q1 := Lib.hid Q
    clear Q
    go_enter Try.func150, Try.ntmps150
    go_wp2_with (go_at_call 94; refine (specInRange_ok _ _ _ _).mono ?_; rintro e w' ⟨rfl, rfl⟩)
    go_ret
    exact FIN.out _ (by unfold validPk; rw [q1.out]; rfl)
  · have q1 := Lib.hid Q
    clear Q
    go_enter Try.func150, Try.ntmps150
    go_wp2_with (go_at_call 94; refine (specInRange_ok _ _ _ _).mono ?_; rintro e w' ⟨rfl, rfl⟩)
    go_ret
    exact FIN.out _ (by unfold validPk; rw [q1.out]; rfl)
  · have q1 := Lib.hid Q
    clear Q
    go_enter Try.func150, Try.ntmps150
    go_wp2_with (go_at_call 94; refine (specInRange_ok _ _ _ _).mono ?_; rintro e w' ⟨rfl, rfl⟩)
    go_ret
    exact FIN.out _ (by unfold validPk; rw [q1.out]; rfl)
  · have q1 := Lib.hid Q
    clear Q
    by_cases hx : (xs.length : Int) = s
    · have hx1 := eq_of hx
      have HX : Hid (decide ((xs.length : Int) = s) = true) := decide_eq_true hx
      clear hx
      by_cases hy : (ys.length : Int) = t
      · have hy1 := eq_of hy
        have HY : Hid (decide ((ys.length : Int) = t) = true) := decide_eq_true hy
        clear hy
        cases q2 : validV xs
        · go_enter Try.func150, Try.ntmps150
          go_wp2_with (first | (go_at_call 94; refine (specInRange_ok _ _ _ _).mono ?_; rintro e w' ⟨rfl, rfl⟩) | (go_at_call 66; refine (specIsValidVector_ok _ _ _ _ hA (by omega)).mono ?_; rintro e w' ⟨rfl, rfl⟩))
          go_ret
          exact FIN.out _ (by unfold validPk; rw [q1.out, HX.out, HY.out, q2]; rfl)
        · cases q3 : validV ys
          all_goals
            go_enter Try.func150, Try.ntmps150
            go_wp2_with (go_at_call 94; refine (specInRange_ok _ _ _ _).mono ?_; rintro e w' ⟨rfl, rfl⟩)
            refine (specIsValidVector_ok _ _ _ _ hA (by omega)).mono ?_
            rintro e w' ⟨rfl, rfl⟩
            go_wp2_with fail
            refine (specIsValidVector_ok _ _ _ _ hB (by omega)).mono ?_
            rintro e w' ⟨rfl, rfl⟩
            go_wp2_with fail
            go_ret
            exact FIN.out _ (by unfold validPk; rw [q1.out, HX.out, HY.out, q2, q3]; rfl)
      · have hy1 := not_eq_of hy
        have HY : Hid (decide ((ys.length : Int) = t) = false) := decide_eq_false hy
        clear hy
        go_enter Try.func150, Try.ntmps150
        go_wp2_with (go_at_call 94; refine (specInRange_ok _ _ _ _).mono ?_; rintro e w' ⟨rfl, rfl⟩)
        go_ret
        exact FIN.out _ (by unfold validPk; rw [q1.out, HX.out, HY.out]; rfl)
    · have hx1 := not_eq_of hx
      have HX : Hid (decide ((xs.length : Int) = s) = false) := decide_eq_false hx
      clear hx
      go_enter Try.func150, Try.ntmps150
      go_wp2_with (go_at_call 94; refine (specInRange_ok _ _ _ _).mono ?_; rintro e w' ⟨rfl, rfl⟩)
      go_ret
      exact FIN.out _ (by unfold validPk; rw [q1.out, HX.out]; rfl)

def zeroPk (xs ys : List Int) : Bool := decide (leadI xs < 0) && decide (leadI ys < 0)

theorem implIsZeroPacket_ok (n : Int) (a : Option Addr) (c : Nat) (xs : List Int) (b : Option Addr) (d : Nat) (ys : List Int) (w : World) (h1 : Vals w a (I xs)) (h2 : Vals w b (I ys)) (hl : xs.length ≤ 1048576) (hl' : ys.length ≤ 1048576) :
    Calls Try.prog 67 #[pkV n a c xs b d ys] w (Gives w (.bool (zeroPk xs ys))) := by
  by_cases hx : leadI xs < 0
  · by_cases hy : leadI ys < 0
    all_goals
      go_enter Try.func67, Try.ntmps67
      go_wp2_with fail
      refine (implLeadingIndex_ok _ _ _ _ (h1.ext ((Ext.refl w).alloc _)) (by omega)).mono ?_
      rintro e w1 ⟨rfl, rfl⟩
      go_wp2_with fail
      refine (implLeadingIndex_ok _ _ _ _ (h2.ext ((Ext.refl w).alloc _)) (by omega)).mono ?_
      rintro e w1 ⟨rfl, rfl⟩
      go_wp2_with fail
      go_ret
      exact ⟨ret_bool (by simp [zeroPk]; omega), (Ext.refl w).alloc _⟩
  · go_enter Try.func67, Try.ntmps67
    go_wp2_with fail
    refine (implLeadingIndex_ok _ _ _ _ (h1.ext ((Ext.refl w).alloc _)) (by omega)).mono ?_
    rintro e w1 ⟨rfl, rfl⟩
    go_wp2_with fail
    go_ret
    exact ⟨ret_bool (by simp [zeroPk]; omega), (Ext.refl w).alloc _⟩

end Go.Proofs.Ytkegknophppdgaa
