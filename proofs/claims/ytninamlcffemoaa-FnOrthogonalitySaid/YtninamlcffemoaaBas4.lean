/- Contract of Coordinates (program and reference); laws of FreeColumns and Coordinates. -/
import Derived.Test.YtninamlcffemoaaBas3
import Derived.Test.YtninamlcffemoaaLawTot
namespace Go.Proofs.Ytninamlcffemoaa
open Go.RowKit
set_option linter.unusedVariables false
set_option maxRecDepth 20000

def coC (n : Int) (m : List (List Int)) (v : List Int) : List Int := if cvB n m v then coordTo m v m.length else []
theorem cvB_fits {n : Int} {m : List (List Int)} {v : List Int} (h : cvB n m v = true) : fitsB n m v = true := by
  unfold cvB at h
  rw [Bool.and_eq_true] at h
  exact h.1

set_option maxHeartbeats 4000000 in
theorem implCoordinates_ok (n : Int) (a : Option Addr) (c : Nat) (m : List (List Int)) (b : Option Addr) (d : Nat) (v : List Int) (w : World) (h : MatR w a m) (h' : Vals w b (I v)) (hl : m.length ≤ 1048576) (hr : ∀ xs ∈ m, xs.length ≤ 1048576) (hl' : v.length ≤ 1048576) :
    Calls Try.prog 52 #[bsV n a c m, .slice b v.length d] w (NewIF w (coC n m v) (cvB n m v)) := by
  have E : Ext w (w.alloc (.cells #[.int .i64 n, .slice a m.length c] 46)) := (Ext.refl w).alloc _
  have Q := Lib.hid (implContainsVector_ok n a c m b d v _ (h.ext E) (h'.ext E) hl hr hl')
  have HE := Lib.hid E
  clear hr E
  cases q1 : cvB n m v
  · have HF : Hid (coC n m v = []) := by unfold coC; rw [q1]; exact Lib.hid rfl
    rw [q1] at Q
    go_enter Try.func52, Try.ntmps52
    go_wp2_with fail
    (with_reducible refine Q.out.mono ?_)
    rintro e w1 ⟨rfl, e1⟩
    go_wp2_with fail
    go_ret2
    rw [HF.out]
    exact ⟨none, 0, rfl, OwnI.nil _ _, HE.out.trans e1⟩
  have HF : Hid (coC n m v = coordTo m v m.length) := by unfold coC; rw [q1]; exact Lib.hid rfl
  obtain ⟨p1, p2, p3, p4, p5, p6, _⟩ := fitsB_parts (cvB_fits q1)
  have HR := Lib.hid p1
  have HL := Lib.hid p3
  rw [q1] at Q
  clear q1 p1 p2 p3 p6
  go_enter Try.func52, Try.ntmps52
  go_wp2_with fail
  (with_reducible refine Q.out.mono ?_)
  rintro e w1 ⟨rfl, e1⟩
  have E1 := HE.out.trans e1
  have c1 := e1.cell (p := ⟨w.heap.size, 1, none⟩) (v := .slice a m.length c) (by simp)
  clear e1 Q
  go_wp2_with fail
  go_loopw [6, 16] (fun x i wr => ∃ (k : Nat) (a3 : Option Addr) (c3 : Nat) (us : List Int), k ≤ m.length ∧ i = .int .i64 k ∧ x = .slice a3 us.length c3 ∧ Hid (us = coordTo m v k) ∧ OwnI wr w.heap.size a3 c3 us ∧ Ext w wr) (fun _ i _ => m.length - (intOf i).toNat)
  case atStart => exact ⟨0, none, 0, [], Nat.zero_le _, rfl, rfl, rfl, OwnI.nil _ _, E1⟩
  case round =>
    clear c1 E1
    obtain ⟨k, a3, c3, us, hk, rfl, rfl, HU, ho, he⟩ := hrel
    have hul : us.length ≤ 40 := by rw [HU.out, coordTo_length]; omega
    by_cases hlt : k < m.length
    · obtain ⟨b1, o1, ra, rc, xs, rfl, hb, hx, hc, hrow⟩ := (h.ext he).at_ hlt
      have hxs : Hid (m.getD k [] = xs) := getD_some hx.out
      have hrk := HR.out.1.getD hlt
      have hlk := HR.out.ld_lt hlt
      rw [hxs.out] at hrk hlk
      obtain ⟨p, hp⟩ : ∃ p, Hid (ld xs = p) := ⟨_, rfl⟩
      rw [hp.out] at hlk
      have hxl : xs.length ≤ 40 := hrk.2.2
      have HP : Hid (leadI xs = (p : Int)) := leadI_nat hp.out (by rw [hrk.2.1]; exact hlk)
      have hpv : p < v.length := by rw [HL.out]; exact hlk
      obtain ⟨b2, o2, y, rfl, _, hy, hcy⟩ := (h'.ext he).atI hpv
      have hye : Hid (ent v p = y) := ent_some hy.out
      obtain ⟨ys, hys⟩ : ∃ ys, Hid (ys = us ++ [y]) := ⟨_, rfl⟩
      have HY : Hid (ys = coordTo m v (k + 1)) := by rw [coordTo_succ, hxs.out, hp.out, hye.out, ← HU.out]; exact hys
      have i1 : (p : Int) < (v.length : Int) := by omega
      clear hrk
      go_wp2_with (first
        | (go_at_call 39; (with_reducible refine (implLeadingIndex_ok _ _ _ _ hrow (by omega)).mono ?_); rintro e w' ⟨rfl, rfl⟩; rw [HP.out])
        | (at_builtin; refine wpList_appI _ rfl _ _ rfl w.heap.size _ _ us rfl (ho.ext ((Ext.refl wr).alloc _)) _ _ [y] rfl (Vals.new wr [.int .i64 y] _) ys hys.out (by simp; omega) (by have := he.size_le; simp; omega) ?_))
      intro a4 c4 w4 o4 g4 _
      have e4 := (he.alloc (.cells (I [y]).toArray 3)).grown g4 (fun k hk => (ho.block k hk).1)
      clear g4 ho he
      go_wp2_with fail
      go_roundw
      case rel => exact ⟨k + 1, a4, c4, ys, by omega, by go_num, rfl, HY, o4, e4⟩
      case measure => simp [intOf]; omega
    · obtain rfl : k = m.length := by omega
      go_wp2_with fail
      go_ret2
      rw [HF.out, ← HU.out]
      exact ⟨a3, c3, rfl, ho, he⟩

theorem fcB_len (n : Int) (m : List (List Int)) : (fcB n m).length ≤ 40 := by
  unfold fcB
  split
  · rename_i h
    have := validB_true.1 h
    have := freeTo_len m n.toNat
    omega
  · simp
theorem coC_len (n : Int) (m : List (List Int)) (v : List Int) : (coC n m v).length ≤ 40 := by
  unfold coC
  split
  · rename_i h
    rw [coordTo_length]
    exact (fitsB_parts (cvB_fits h)).2.2.2.2.1
  · simp

end Go.Proofs.Ytninamlcffemoaa
