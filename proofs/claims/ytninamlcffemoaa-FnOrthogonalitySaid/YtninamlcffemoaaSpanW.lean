/- Contracts of the program's SpanOf, OrthogonalSpace, RandomBasis. -/
import Derived.Test.YtninamlcffemoaaNulW
import Derived.Test.YtninamlcffemoaaLawNew
import Derived.Test.YtninamlcffemoaaRand
namespace Go.Proofs.Ytninamlcffemoaa
open Go.RowKit
set_option linter.unusedVariables false
set_option maxRecDepth 20000

theorem implNewBasis0_ok (n : Int) (w : World) : Calls Try.prog 113 #[.int .i64 n] w (Gives w (bsV (basisW n) none 0 [])) := by
  cases h1 : inR n 0 40
  · have hb : Hid (basisW n = 0) := by simp [basisW, h1, Hid]
    go_enter Try.func113, Try.ntmps113
    go_wp2_with (go_at_call 119; refine (implInRange_ok _ _ _ _).mono ?_; rintro e w' ⟨rfl, rfl⟩)
    refine bodyPost_ret (v := bsV 0 none 0 []) (by simp only [results, Try.results113]; go_simp) rfl ?_
    rw [hb.out]
    exact ⟨rfl, (Ext.refl w).alloc _⟩
  · have hb : Hid (basisW n = n) := by simp [basisW, h1, Hid]
    go_enter Try.func113, Try.ntmps113
    go_wp2_with (go_at_call 119; refine (implInRange_ok _ _ _ _).mono ?_; rintro e w' ⟨rfl, rfl⟩)
    refine bodyPost_ret (v := bsV n none 0 []) (by simp only [results, Try.results113]; go_simp) rfl ?_
    rw [hb.out]
    exact ⟨rfl, (Ext.refl w).alloc _⟩

theorem specNewBasis0_ok (n : Int) (w : World) : Calls Try.prog 142 #[.int .i64 n] w (Gives w (bsV (basisW n) none 0 [])) := by
  cases h1 : inR n 0 40
  · have hb : Hid (basisW n = 0) := by simp [basisW, h1, Hid]
    go_enter Try.func142, Try.ntmps142
    go_wp2_with (go_at_call 120; refine (specInRange_ok _ _ _ _).mono ?_; rintro e w' ⟨rfl, rfl⟩)
    refine bodyPost_ret (v := bsV 0 none 0 []) (by simp only [results, Try.results142]; go_simp) rfl ?_
    rw [hb.out]
    exact ⟨rfl, (Ext.refl w).alloc _⟩
  · have hb : Hid (basisW n = n) := by simp [basisW, h1, Hid]
    go_enter Try.func142, Try.ntmps142
    go_wp2_with (go_at_call 120; refine (specInRange_ok _ _ _ _).mono ?_; rintro e w' ⟨rfl, rfl⟩)
    refine bodyPost_ret (v := bsV n none 0 []) (by simp only [results, Try.results142]; go_simp) rfl ?_
    rw [hb.out]
    exact ⟨rfl, (Ext.refl w).alloc _⟩

/-- The rows of the span of vectors. -/
def spanR (vs : List (List Int)) (n : Int) : List (List Int) := if inR n 0 40 then spanTo vs n.toNat vs.length else []
theorem spanR_no {vs : List (List Int)} {n : Int} (h : inR n 0 40 = false) : spanR vs n = [] := by unfold spanR; rw [h]; rfl
theorem spanR_yes {vs : List (List Int)} {n : Nat} (h : inR (n : Int) 0 40 = true) : spanR vs n = spanTo vs n vs.length := by unfold spanR; rw [h]; rfl
theorem spanTo_yes {vs : List (List Int)} {n k : Nat} {xs : List Int} (hx : vs[k]? = some xs) (h1 : validV xs = true) (h2 : xs.length = n) : spanTo vs n (k + 1) = insM (spanTo vs n k) xs := by
  rw [spanTo, getD_some hx, h1, decide_eq_true h2]; rfl
theorem spanTo_no {vs : List (List Int)} {n k : Nat} {xs : List Int} (hx : vs[k]? = some xs) (h : validV xs = false ∨ xs.length ≠ n) : spanTo vs n (k + 1) = spanTo vs n k := by
  rw [spanTo, getD_some hx, if_neg]
  rw [Bool.and_eq_true, decide_eq_true_eq]
  rintro ⟨h1, h2⟩
  rcases h with h | h
  · rw [h] at h1; cases h1
  · exact h h2

set_option maxHeartbeats 4000000 in
theorem implSpanOf_ok (a : Option Addr) (c : Nat) (vs : List (List Int)) (n : Int) (w : World) (h : MatR w a vs) (hl : vs.length ≤ 1048576) (hr : ∀ xs ∈ vs, xs.length ≤ 1048576) :
    Calls Try.prog 55 #[.slice a vs.length c, .int .i64 n] w (NewB w (basisW n) (spanR vs n)) := by
  have HR := Lib.hid hr
  clear hr
  cases h1 : inR n 0 40
  · have HB : Hid (basisW n = basisW 0) := by unfold basisW; rw [h1]; exact Lib.hid rfl
    have HS := Lib.hid (spanR_no (vs := vs) h1)
    go_enter Try.func55, Try.ntmps55
    go_wp2_with (go_at_call 119; (with_reducible refine (implInRange_ok _ _ _ _).mono ?_); rintro e w' ⟨rfl, rfl⟩; rw [h1])
    (with_reducible refine (implNewBasis0_ok _ _).mono ?_)
    rintro e w1 ⟨rfl, e1⟩
    have E1 := ((Ext.refl w).alloc (.cells #[.int .i64 0, .slice none 0 0] 46)).trans e1
    obtain ⟨k1, f1⟩ := e1.look
    have z1 := e1.size_le
    simp at k1 f1 z1
    go_wp2_with fail
    refine bodyPost_ret (v := bsV (basisW 0) none 0 []) (by simp only [results, Try.results55]; go_simp) rfl ?_
    rw [HB.out, HS.out]
    exact ⟨none, 0, rfl, OM.nil _ _ _, (E1.setCell (by simp) _).setCell (by simp) _⟩
  obtain ⟨n0, n1⟩ := inR_true.1 h1
  obtain ⟨m, rfl⟩ := Int.eq_ofNat_of_zero_le n0
  have HB : Hid (basisW (m : Int) = (m : Int)) := by unfold basisW; rw [h1]; exact Lib.hid rfl
  have HS := Lib.hid (spanR_yes (vs := vs) h1)
  have hm : m ≤ 40 := by omega
  have HSP := Lib.hid (spanTo_RM (vs := vs) hm)
  have CB := implNewBasis0_ok (m : Int) (w.alloc (.cells #[.int .i64 0, .slice none 0 0] 46))
  rw [HB.out] at CB
  have HCB := Lib.hid CB
  clear CB
  go_enter Try.func55, Try.ntmps55
  go_wp2_with (go_at_call 119; (with_reducible refine (implInRange_ok _ _ _ _).mono ?_); rintro e w' ⟨rfl, rfl⟩; rw [h1])
  (with_reducible refine HCB.out.mono ?_)
  rintro e w1 ⟨rfl, e1⟩
  have E1 := ((Ext.refl w).alloc (.cells #[.int .i64 0, .slice none 0 0] 46)).trans e1
  have r0 := e1.cell (p := ⟨w.heap.size, 0, none⟩) (v := .int .i64 0) (by simp)
  have r1 := e1.cell (p := ⟨w.heap.size, 1, none⟩) (v := .slice none 0 0) (by simp)
  have zres : w.heap.size < w1.heap.size := World.block_lt_of_cell? _ _ r0
  have f0 : w1.frozen? ⟨w.heap.size, 0, none⟩ = false := (e1.look.2 w.heap.size 0 (by simp)).trans (by simp)
  have f1 : w1.frozen? ⟨w.heap.size, 1, none⟩ = false := (e1.look.2 w.heap.size 1 (by simp)).trans (by simp)
  have B0 : BasisAt w1 w1.heap.size (m : Nat) (spanTo vs m 0) (w1.alloc (.cells #[.int .i64 (m : Nat), .slice none 0 0] 46)) :=
    ⟨none, 0, (Ext.refl w1).alloc _, Nat.le_refl _, by simp, by simp [spanTo], by simp, OM.nil _ _ _⟩
  clear e1 HCB
  go_wp2_with fail
  go_loopw [16] (fun i wr => ∃ k : Nat, k ≤ vs.length ∧ i = .int .i64 k ∧ BasisAt w1 w1.heap.size (m : Nat) (spanTo vs m k) wr) (fun i _ => vs.length - (intOf i).toNat)
  case atStart => exact ⟨0, Nat.zero_le _, rfl, B0⟩
  case round =>
    clear B0
    obtain ⟨k, hk, rfl, hB⟩ := hrel
    have he : Ext w1 wr := by obtain ⟨_, _, h, _⟩ := hB; exact h
    have hrl := (HSP.out k).2
    by_cases hlt : k < vs.length
    · obtain ⟨b1, o1, ra, rc, xs, rfl, hb, hx, hc, hrow⟩ := (h.ext (E1.trans he)).at_ hlt
      have hxm := HR.out xs (List.mem_of_getElem? hx.out)
      cases q1 : validV xs
      · have HK := Lib.hid (spanTo_no (n := m) hx.out (.inl q1))
        rw [← HK.out] at hB
        go_wp2_with (go_at_call 100; (with_reducible refine (implIsValidVector_ok _ _ _ _ hrow (by omega)).mono ?_); rintro e w' ⟨rfl, rfl⟩; rw [q1])
        go_roundw
        case rel => exact ⟨k + 1, by omega, by go_num, hB⟩
        case measure => simp [intOf]; omega
      · by_cases q2 : xs.length = m
        · have q2' : ((xs.length : Int) == (m : Int)) = true := by simp [q2]
          have HK := Lib.hid (spanTo_yes hx.out q1 q2)
          have CC := Lib.hid (insert_ok w1 w1.heap.size (m : Nat) (spanTo vs m k) ra rc xs m wr hB hrow (HSP.out k).1 (validV_true.1 q1).1 q2 hm (by omega))
          rw [← HK.out] at CC
          clear q2 hB
          go_wp2_with (first
            | (go_at_call 100; (with_reducible refine (implIsValidVector_ok _ _ _ _ hrow (by omega)).mono ?_); rintro e w' ⟨rfl, rfl⟩; rw [q1]))
          (with_reducible refine CC.out.mono ?_)
          rintro e w3 ⟨rfl, B3⟩
          clear CC
          go_wp2_with fail
          go_roundw
          case rel => exact ⟨k + 1, by omega, by go_num, B3⟩
          case measure => simp [intOf]; omega
        · have q2' : ((xs.length : Int) == (m : Int)) = false := by simp; omega
          have HK := Lib.hid (spanTo_no hx.out (.inr q2))
          rw [← HK.out] at hB
          clear q2
          go_wp2_with (go_at_call 100; (with_reducible refine (implIsValidVector_ok _ _ _ _ hrow (by omega)).mono ?_); rintro e w' ⟨rfl, rfl⟩; rw [q1])
          go_roundw
          case rel => exact ⟨k + 1, by omega, by go_num, hB⟩
          case measure => simp [intOf]; omega
    · obtain rfl : k = vs.length := by omega
      obtain ⟨a2, c2, q1, q2, q3, q4, q5, q6⟩ := hB
      rw [← HS.out] at q4 q6
      replace r0 := q1.cell r0
      replace r1 := q1.cell r1
      have E2 := E1.trans q1
      have zz := World.block_lt_of_cell? _ _ q3
      have zw := E1.size_le
      have g0 : wr.frozen? ⟨w.heap.size, 0, none⟩ = false := (q1.look.2 w.heap.size 0 zres).trans f0
      have g1 : wr.frozen? ⟨w.heap.size, 1, none⟩ = false := (q1.look.2 w.heap.size 1 zres).trans f1
      have HF : Hid (∀ W : World, W = (wr.setCell ⟨w.heap.size, 0, none⟩ (.int .i64 (m : Nat))).setCell ⟨w.heap.size, 1, none⟩ (.slice a2 (spanR vs (m : Int)).length c2) → NewB w (basisW (m : Int)) (spanR vs (m : Int)) (.returned (bsV (m : Int) a2 c2 (spanR vs (m : Int)))) W) := fun W hW => by
        subst hW
        rw [HB.out]
        refine ⟨a2, c2, rfl, (((q6.setCell (p := ⟨w.heap.size, 0, none⟩) (by show w.heap.size < _; omega) _).setCell (p := ⟨w.heap.size, 1, none⟩) (by show w.heap.size < _; omega) _).mono (by omega) (by simp)), ?_⟩
        exact (E2.setCell (p := ⟨w.heap.size, 0, none⟩) (Nat.le_refl _) _).setCell (p := ⟨w.heap.size, 1, none⟩) (Nat.le_refl _) _
      obtain ⟨zs, hzs⟩ : ∃ zs, Hid (zs = spanR vs (m : Int)) := ⟨_, rfl⟩
      rw [← hzs.out] at q4 HF ⊢
      clear q1 q6 E1 E2
      go_wp2_with fail
      refine bodyPost_ret (v := bsV (m : Int) a2 c2 zs) (by simp only [results, Try.results55]; go_simp) rfl ?_
      rw [← hzs.out]
      exact HF.out _ rfl

/-- The orthogonal space. -/
def orthR (n : Int) (m : List (List Int)) : List (List Int) := if validB n m then spanR (nullTo m n.toNat n.toNat) n else []
def orthW (n : Int) (m : List (List Int)) : Int := if validB n m then n else 0

set_option maxHeartbeats 4000000 in
theorem implOrthogonalSpace_ok (n : Int) (a : Option Addr) (c : Nat) (m : List (List Int)) (w : World) (h : MatR w a m) (hl : m.length ≤ 1048576) (hr : ∀ xs ∈ m, xs.length ≤ 1048576) :
    Calls Try.prog 47 #[bsV n a c m] w (NewB w (orthW n m) (orthR n m)) := by
  have E : Ext w ((w.alloc (.cells #[.int .i64 n, .slice a m.length c] 46)).alloc (.cells #[.int .i64 0, .slice none 0 0] 46)) := ((Ext.refl w).alloc _).alloc _
  have Q := Lib.hid (implIsValidBasis_ok n a c m _ (h.ext E) hl hr)
  have HE := Lib.hid E
  clear hr E
  cases q1 : validB n m
  · have HW : Hid (orthW n m = basisW 0) := by unfold orthW; rw [q1]; exact Lib.hid rfl
    have HR : Hid (orthR n m = []) := by unfold orthR; rw [q1]; exact Lib.hid rfl
    rw [q1] at Q
    go_enter Try.func47, Try.ntmps47
    go_wp2_with fail
    (with_reducible refine Q.out.mono ?_)
    rintro e w1 ⟨rfl, e1⟩
    have E1 := HE.out.trans e1
    go_wp2_with fail
    (with_reducible refine (implNewBasis0_ok _ _).mono ?_)
    rintro e w2 ⟨rfl, e2⟩
    have E2 := E1.trans e2
    obtain ⟨k1, f1⟩ := (e1.trans e2).look
    have z1 := (e1.trans e2).size_le
    simp at k1 f1 z1
    go_wp2_with fail
    refine bodyPost_ret (v := bsV (basisW 0) none 0 []) (by simp only [results, Try.results47]; go_simp) rfl ?_
    rw [HW.out, HR.out]
    exact ⟨none, 0, rfl, OM.nil _ _ _, (E2.setCell (by simp) _).setCell (by simp) _⟩
  obtain ⟨n0, n1, hRM, hm⟩ := validB_true.1 q1
  obtain ⟨k, rfl⟩ := Int.eq_ofNat_of_zero_le n0
  have HW : Hid (orthW (k : Int) m = basisW (k : Int)) := by unfold orthW basisW; rw [q1, inR_true.2 ⟨n0, n1⟩]; exact Lib.hid rfl
  have HR : Hid (orthR (k : Int) m = spanR (nullTo m k k) (k : Int)) := by unfold orthR; rw [q1]; exact Lib.hid rfl
  have HRM : Hid (RM k m) := by rw [show ((k : Int)).toNat = k by omega] at hRM; exact hRM
  have hk : k ≤ 40 := by omega
  have C1 : Hid (∀ W, Ext w W → Calls Try.prog 99 #[.slice a m.length c, .int .i64 (k : Nat)] W (NewM W (nullTo m k k))) := fun W hW => nullSpace_ok a c m k W (h.ext hW) HRM.out hk hm
  obtain ⟨ns, hns⟩ : ∃ ns, Hid (ns = nullTo m k k) := ⟨_, rfl⟩
  have hnl : ns.length ≤ 40 := by rw [hns.out]; have := nullTo_len m k k; omega
  have HNR : Hid (∀ xs ∈ ns, xs.length ≤ 1048576) := fun xs hx => by rw [hns.out] at hx; have := (nullTo_VR hk xs hx).2; omega
  rw [← hns.out] at C1 HR
  rw [q1] at Q
  clear q1 hRM
  go_enter Try.func47, Try.ntmps47
  go_wp2_with fail
  (with_reducible refine Q.out.mono ?_)
  rintro e w1 ⟨rfl, e1⟩
  have E1 := HE.out.trans e1
  have c0 := e1.cell (p := ⟨w.heap.size, 0, none⟩) (v := .int .i64 (k : Nat)) (by simp)
  have c1 := e1.cell (p := ⟨w.heap.size, 1, none⟩) (v := .slice a m.length c) (by simp)
  have r0 := e1.cell (p := ⟨w.heap.size + 1, 0, none⟩) (v := .int .i64 0) (by simp)
  have r1 := e1.cell (p := ⟨w.heap.size + 1, 1, none⟩) (v := .slice none 0 0) (by simp)
  have zres : w.heap.size + 1 < w1.heap.size := World.block_lt_of_cell? _ _ r0
  have f0 : w1.frozen? ⟨w.heap.size + 1, 0, none⟩ = false := (e1.look.2 (w.heap.size + 1) 0 (by simp)).trans (by simp)
  have f1 : w1.frozen? ⟨w.heap.size + 1, 1, none⟩ = false := (e1.look.2 (w.heap.size + 1) 1 (by simp)).trans (by simp)
  clear e1 Q HE
  go_wp2_with fail
  go_region_held3 (fun w' => w'.cell? ⟨w.heap.size, 0, none⟩ = some (.int .i64 (k : Nat)) ∧ w'.cell? ⟨w.heap.size, 1, none⟩ = some (.slice a m.length c))
    (first | exact ⟨(e3.cell c0), (e3.cell c1)⟩ | exact ⟨e4.cell (e3.cell c0), e4.cell (e3.cell c1)⟩ | exact ⟨S4.out.1, S4.out.2⟩ | go_keep)
    (first
      | (go_at_call 99; (with_reducible refine (C1.out _ E1.drew).mono ?_); rintro e w3 ⟨a3, c3, rfl, o3, e3'⟩; have e3 : Ext w1 w3 := (Ext.refl w1).drew.trans e3')
      | (go_at_call 55; (with_reducible refine (implSpanOf_ok _ _ ns _ _ o3.reads (by omega) HNR.out).mono ?_); rintro e w4 ⟨a4, c4, rfl, o4, e4⟩; have x0 := (e3.trans e4).cell r0; have x1 := (e3.trans e4).cell r1; have y0 := ((e3.trans e4).look.2 (w.heap.size + 1) 0 zres).trans f0; have y1 := ((e3.trans e4).look.2 (w.heap.size + 1) 1 zres).trans f1; have S4 : Hid ((((w4.setCell ⟨w.heap.size + 1, 0, none⟩ (.int .i64 (basisW (k : Int)))).setCell ⟨w.heap.size + 1, 1, none⟩ (.slice a4 (spanR ns (k : Int)).length c4)).cell? ⟨w.heap.size, 0, none⟩ = some (.int .i64 (k : Nat))) ∧ (((w4.setCell ⟨w.heap.size + 1, 0, none⟩ (.int .i64 (basisW (k : Int)))).setCell ⟨w.heap.size + 1, 1, none⟩ (.slice a4 (spanR ns (k : Int)).length c4)).cell? ⟨w.heap.size, 1, none⟩ = some (.slice a m.length c))) := ⟨(World.cell?_setCell_other _ _ _ _ (by simp)).trans ((World.cell?_setCell_other _ _ _ _ (by simp)).trans (e4.cell (e3.cell c0))), (World.cell?_setCell_other _ _ _ _ (by simp)).trans ((World.cell?_setCell_other _ _ _ _ (by simp)).trans (e4.cell (e3.cell c1)))⟩))
  have E4 := ((E1.trans e3).trans e4)
  have zw := E4.size_le
  have z13 := (E1.trans e3).size_le
  obtain ⟨zs, hzs⟩ : ∃ zs, Hid (zs = spanR ns (k : Int)) := ⟨_, rfl⟩
  rw [← hzs.out] at HR o4 ⊢
  have HF : Hid (NewB w (orthW (k : Int) m) (orthR (k : Int) m) (.returned (bsV (basisW (k : Int)) a4 c4 zs)) ((w4.setCell ⟨w.heap.size + 1, 0, none⟩ (.int .i64 (basisW (k : Int)))).setCell ⟨w.heap.size + 1, 1, none⟩ (.slice a4 zs.length c4))) := by
    rw [HW.out, HR.out]
    have z3 : w.heap.size + 1 < w3.heap.size := Nat.lt_of_lt_of_le zres e3.size_le
    refine ⟨a4, c4, rfl, (((o4.setCell (p := ⟨w.heap.size + 1, 0, none⟩) (by show w.heap.size + 1 < _; omega) _).setCell (p := ⟨w.heap.size + 1, 1, none⟩) (by show w.heap.size + 1 < _; omega) _).mono (by omega) (by simp)), ?_⟩
    exact (E4.setCell (p := ⟨w.heap.size + 1, 0, none⟩) (by show w.heap.size ≤ w.heap.size + 1; omega) _).setCell (p := ⟨w.heap.size + 1, 1, none⟩) (by show w.heap.size ≤ w.heap.size + 1; omega) _
  clear E1 E4 e3 e4 o3 o4 C1 S4 c0 c1 e3'
  go_wp2_with fail
  refine bodyPost_ret (v := bsV (basisW (k : Int)) a4 c4 zs) (by simp only [results, Try.results47]; go_simp) rfl ?_
  exact HF.out

/-- The rows of a random basis: the first k vectors. -/
def rbTo (s : Int) (n : Int) (k : Nat) : List (List Int) := (List.range k).map fun i => rvec (wrap64 (s + ((i + 1 : Nat) : Int))) n

end Go.Proofs.Ytninamlcffemoaa
