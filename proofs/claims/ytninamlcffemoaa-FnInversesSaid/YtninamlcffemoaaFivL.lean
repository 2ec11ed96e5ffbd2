/- FnInverses: the draw; the law. -/
import Derived.Test.YtninamlcffemoaaFip
import Derived.Test.YtninamlcffemoaaDetI
import Derived.Test.YtninamlcffemoaaDrm
import Derived.Test.YtninamlcffemoaaSame
namespace Go.Proofs.Ytninamlcffemoaa
open Go.RowKit
set_option linter.unusedVariables false
set_option maxRecDepth 20000

set_option maxHeartbeats 4000000 in
theorem l7Square2_ok (a : Option Addr) (c : Nat) (bs : List Int) (w : World) (h : Vals w a (Y bs)) (hb : ∀ x ∈ bs, 0 ≤ x ∧ x ≤ 255) (hl : bs.length ≤ 1048576) :
    Calls Try.prog 94 #[.slice a bs.length c] w (DM w) := by
  have C1 := Lib.hid (l1New_ok a c bs w h hb hl)
  have CB := Lib.hid (fun W n g (hW : Cur W g a c bs) (hn : n ≤ 1000000000) => l1Below_ok g a c bs n W hW hn)
  have CO := Lib.hid (fun W n g (hW : Cur W g a c bs) (hn : n ≤ 1000000000) => l1Once_ok g a c bs n W hW hn)
  have CA := Lib.hid (fun W (n m : Nat) g (hW : Cur W g a c bs) (hn : n ≤ 1000) (hm : m ≤ 40) => l6Any_ok g a c bs n m W hW hn hm)
  clear h hb
  go_enter Try.func94, Try.ntmps94
  go_wp2_with fail
  (with_reducible refine C1.out.mono ?_)
  rintro e w1 ⟨rfl, k1, e1⟩
  obtain ⟨g, hgg⟩ : ∃ g, w.heap.size = g := ⟨_, rfl⟩
  rw [hgg] at k1 ⊢
  have hg := k1.lt
  go_wp2_with fail
  (with_reducible refine (CB.out _ _ _ k1 (by omega)).mono ?_)
  rintro e w2 ⟨x, rfl, x0, x1, k2, s2⟩
  obtain ⟨n, rfl⟩ := Int.eq_ofNat_of_zero_le x0
  go_wp2_with fail
  (with_reducible refine (CA.out _ _ _ _ k2 (by omega) (by omega)).mono ?_)
  rintro e w4 ⟨a4, c4, xss, rfl, hx, o4, k4, s4⟩
  have hxl : xss.length ≤ 60 := by omega
  have HX := Lib.hid hx.2
  have t4 := s2.trans s4
  have z2 := s2.size
  clear k1 k2 s2 s4 hx x0 x1
  go_wp2_with fail
  (with_reducible refine (CO.out _ _ _ k4 (by omega)).mono ?_)
  rintro e w5 ⟨f, rfl, k5, s5⟩
  have o5 := o4.span s5 (.inr (by omega))
  have t5 := t4.trans s5
  clear k4 o4 s5 t4
  cases f
  · have E5 : Ext w w5 := Span.ext e1 t5 (by omega)
    go_wp2_with fail
    go_ret
    exact ⟨a4, c4, xss, rfl, ⟨hxl, HX.out⟩, o5.reads, E5⟩
  · go_wp2_with fail
    (with_reducible refine (CB.out _ _ _ k5 (by omega)).mono ?_)
    rintro e w6 ⟨y, rfl, y0, y1, k6, s6⟩
    obtain ⟨q, rfl⟩ := Int.eq_ofNat_of_zero_le y0
    have hq : q ≤ 1 := by omega
    have E6 : Ext w w6 := Span.ext e1 (t5.trans s6) (by omega)
    clear k5 k6 s6 t5 o5 y0 y1
    go_wp2_with fail
    obtain ⟨M, hM⟩ : ∃ M : Nat, 20 + (q : Int) = M := ⟨20 + q, by omega⟩
    have hM5 : M ≤ 21 := by omega
    rw [hM]
    clear hM
    have CI := Lib.hid (specIdent_ok M w6 (by omega))
    (with_reducible refine CI.out.mono ?_)
    rintro e w7 ⟨a7, c7, rfl, o7, e7⟩
    go_wp2_with fail
    go_ret
    refine ⟨a7, c7, _, rfl, ⟨by rw [idL_length]; omega, fun xs hx => ?_⟩, o7.reads, E6.trans e7⟩
    unfold idL at hx
    obtain ⟨i, _, rfl⟩ := List.mem_map.1 hx
    rw [unitV_length]
    omega

set_option maxHeartbeats 1000000 in
theorem drawInvert_ok (a : Option Addr) (c : Nat) (bs : List Int) (w : World) (h : Vals w a (Y bs)) (hb : ∀ x ∈ bs, 0 ≤ x ∧ x ≤ 255) (hl : bs.length ≤ 1048576) :
    Calls Try.prog 24 #[.slice a bs.length c] w (DM w) := by
  have C1 := Lib.hid (l7Square2_ok a c bs w h hb hl)
  clear h hb
  go_enter Try.func24, Try.ntmps24
  go_wp2_with fail
  (with_reducible refine C1.out.mono ?_)
  rintro e w1 ⟨a2, c2, xss, rfl, hx, v1, e1⟩
  go_wp2_with fail
  go_ret
  exact ⟨a2, c2, xss, rfl, hx, v1, e1⟩

theorem sameRows_slf (a b : Option Addr) (c d : Nat) (xss : List (List Int)) (w : World) (h : MatR w a xss) (h' : MatR w b xss) (hl : xss.length ≤ 1099511627776) (hr : ∀ xs ∈ xss, xs.length ≤ 1099511627776) :
    Calls Try.prog 28 #[.slice a xss.length c, .slice b xss.length d] w (Quiet w (.bool true)) := by
  have := sameRows_ok a b c d xss xss w h h' hl hr
  rw [show decide (xss = xss) = true from decide_eq_true rfl] at this
  exact this

set_option maxHeartbeats 8000000 in
set_option maxRecDepth 100000 in
theorem lawFnInverses (a : Option Addr) (c : Nat) (xs : List Int) (w : World) (r0 : Vals w a (Y xs)) (m0 : xs.length ≤ maxLen) (m1 : ∀ x ∈ xs, 0 ≤ x ∧ x ≤ 255) :
    Calls Try.prog 5 #[.slice a xs.length c] w (Gives w (.bool true)) := by
  by_cases hl : xs.length ≤ 1048576
  rotate_left
  · have C1 := Lib.hid (big_yes a c xs w hl m0)
    clear r0 m1 hl m0
    go_enter Try.func5, Try.ntmps5
    go_wp2_with (go_at_call 23; (with_reducible refine C1.out.mono ?_); rintro e w' ⟨rfl, rfl⟩)
    go_ret
    exact ⟨rfl, Ext.refl _⟩
  have C1 := Lib.hid (big_no a c xs w hl)
  have CD := Lib.hid (drawInvert_ok a c xs w r0 m1 hl)
  clear r0 m1 m0 hl
  go_enter Try.func5, Try.ntmps5
  go_wp2_with (go_at_call 23; (with_reducible refine C1.out.mono ?_); rintro e w' ⟨rfl, rfl⟩)
  (with_reducible refine CD.out.mono ?_)
  rintro e w1 ⟨am, cm, m, rfl, ⟨hml, hmb⟩, hM, e1⟩
  have HMB : Hid (∀ xs ∈ m, xs.length ≤ 1048576) := fun xs hx => Nat.le_trans (hmb xs hx) (by omega)
  have HMB2 : Hid (∀ xs ∈ m, xs.length ≤ 1099511627776) := fun xs hx => Nat.le_trans (hmb xs hx) (by omega)
  have CI := implInvertMatrix_ok am cm m w1 hM (by omega) HMB.out
  obtain ⟨x, hx⟩ : ∃ x, Hid (x = invM m) := ⟨_, rfl⟩
  obtain ⟨q, hq⟩ : ∃ q, Hid (q = invOk m) := ⟨_, rfl⟩
  rw [← hx.out, ← hq.out] at CI
  have HM := Lib.hid hM
  have CV := Lib.hid (fun W (he : Ext w1 W) => specIsValidMatrix_ok am cm m W (HM.out.ext he) (by omega) HMB2.out)
  replace CI := Lib.hid CI
  have NO : Hid (sqOk m = false → q = false ∧ x = []) := fun h => by rw [hq.out, hx.out]; exact inv_sq h
  clear CD C1 hM hmb
  go_wp2_with fail
  (with_reducible refine CI.out.mono ?_)
  rintro e w2 ⟨a2, c2, rfl, oX, e2⟩
  have hX2 := Lib.hid oX.reads
  have CV2 := Lib.hid (CV.out w2 e2)
  have HM2 := Lib.hid (HM.out.ext e2)
  have E2 := e1.trans e2
  clear CI CV oX e1 e2
  cases hval : validM m
  · obtain ⟨hq0, hx0⟩ := NO.out (by unfold sqOk; rw [hval]; rfl)
    subst hq0 hx0
    rw [hval] at CV2
    clear hval
    go_wp2_with fail
    (with_reducible refine CV2.out.mono ?_)
    rintro e w3 ⟨rfl, n3, rfl⟩
    go_wp2_with fail
    go_ret
    exact ⟨rfl, E2.drewN n3⟩
  rw [hval] at CV2
  by_cases hsq : m.length = cols m
  rotate_left
  · obtain ⟨hq0, hx0⟩ := NO.out (by unfold sqOk; rw [decide_eq_false hsq]; simp)
    subst hq0 hx0
    have i1 : ((m.length : Int) != (cols m : Int)) = true := by simp; omega
    clear hval
    go_wp2_with fail
    (with_reducible refine CV2.out.mono ?_)
    rintro e w3 ⟨rfl, n3, rfl⟩
    have CC := Lib.hid (specColumnsOf_ok am cm m (w2.drewN n3) (HM2.out.ext ((Ext.refl w2).drewN n3)))
    go_wp2_with (go_at_call 26; (with_reducible refine CC.out.mono ?_); rintro e w' ⟨rfl, rfl⟩)
    go_ret
    exact ⟨rfl, E2.drewN n3⟩
  have i1 : ((m.length : Int) != (cols m : Int)) = false := by rw [hsq]; simp
  by_cases h20 : m.length ≤ 20
  rotate_left
  · obtain ⟨hq0, hx0⟩ := NO.out (by unfold sqOk; rw [decide_eq_false h20]; simp)
    subst hq0 hx0
    have i2 : (20 : Int) < (m.length : Int) := by omega
    clear hval hsq
    go_wp2_with fail
    (with_reducible refine CV2.out.mono ?_)
    rintro e w3 ⟨rfl, n3, rfl⟩
    have CC := Lib.hid (specColumnsOf_ok am cm m (w2.drewN n3) (HM2.out.ext ((Ext.refl w2).drewN n3)))
    go_wp2_with (go_at_call 26; (with_reducible refine CC.out.mono ?_); rintro e w' ⟨rfl, rfl⟩)
    go_ret
    exact ⟨rfl, E2.drewN n3⟩
  have i2 : decide ((20 : Int) < (m.length : Int)) = false := decide_eq_false (by omega)
  have i2' : decide (20 < m.length) = false := decide_eq_false (by omega)
  have HSQ : Hid (sqOk m = true) := by unfold sqOk; rw [hval, decide_eq_true hsq, decide_eq_true h20]; rfl
  have HVM := Lib.hid hval
  obtain ⟨d, hd⟩ : ∃ d, Hid (d = detM m) := ⟨_, rfl⟩
  obtain ⟨rk, hrk⟩ : ∃ rk : Nat, Hid (rk = (rowRed m).length) := ⟨_, rfl⟩
  have f1 := inv_det_iff HSQ.out
  have f2 := inv_rank_iff HSQ.out
  rw [← hq.out, ← hd.out] at f1
  rw [← hq.out, ← hrk.out] at f2
  have hrk40 : rk ≤ 40 := by rw [hrk.out]; exact (rowRed_bound m).1
  have FA : Hid (q = true → 0 < m.length → validM x = true ∧ cols x = m.length ∧ x.length = m.length ∧ mulL m x = idL m.length m.length ∧ mulL x m = idL m.length m.length ∧ d * detM x % 1019 = 1 ∧ detM (trL m) = d ∧ 0 ≤ d ∧ d ≤ 1018 ∧ 0 ≤ detM x ∧ detM x ≤ 1018) := fun h h0 => by
    rw [hd.out, hx.out]
    rw [hq.out] at h
    exact invAll_ok HSQ.out h h0
  have CDm := Lib.hid (fun W (he : Ext w2 W) => implDeterminant_ok am cm m W (HM2.out.ext he) (by omega) HMB.out)
  have CRk := Lib.hid (fun W (he : Ext w2 W) => specRank_ok am cm m W (HM2.out.ext he) (by omega) HMB.out)
  rw [← hd.out] at CDm
  rw [← hrk.out] at CRk
  have HSL := Lib.hid hsq
  clear hval hsq NO hd hrk hq hx HM
  go_wp2_with fail
  (with_reducible refine CV2.out.mono ?_)
  rintro e w3 ⟨rfl, n3, rfl⟩
  have X3 := (Ext.refl w2).drewN n3
  have CC := Lib.hid (specColumnsOf_ok am cm m (w2.drewN n3) (HM2.out.ext X3))
  have CDm2 := Lib.hid (CDm.out _ X3)
  go_wp2_with (go_at_call 26; (with_reducible refine CC.out.mono ?_); rintro e w' ⟨rfl, rfl⟩)
  (with_reducible refine CDm2.out.mono ?_)
  rintro e w4 ⟨rfl, e4⟩
  have X4 := X3.trans e4
  have CRk2 := Lib.hid (CRk.out _ X4)
  clear CV2 CDm CDm2 CRk CC e4 X3
  cases q
  · have f1' : (d != 0) = false := by simpa using f1
    have f2' : ((rk : Int) == (m.length : Int)) = false := by simpa using f2
    clear f1 f2 FA
    go_wp2_with fail
    (with_reducible refine CRk2.out.mono ?_)
    rintro e w5 ⟨rfl, e5⟩
    go_wp2_with fail
    go_ret
    exact ⟨rfl, E2.trans (X4.trans e5)⟩
  have f1' : (d != 0) = true := by simpa using f1
  have f2' : ((rk : Int) == (m.length : Int)) = true := by simpa using f2
  clear f1 f2
  go_wp2_with fail
  (with_reducible refine CRk2.out.mono ?_)
  rintro e w5 ⟨rfl, e5⟩
  have X5 := X4.trans e5
  clear CRk2 X4 e5
  by_cases hm0 : m.length = 0
  · have i3 : ((m.length : Int) == 0) = true := by rw [hm0]; rfl
    clear hm0
    go_wp2_with fail
    go_ret
    exact ⟨rfl, E2.trans X5⟩
  have i3 : ((m.length : Int) == 0) = false := not_eq_of (by omega)
  obtain ⟨g1, g2, g3, g4, g5, g6, g7, g8, g9, g10, g11⟩ := FA.out (by first | rfl | trivial) (by omega)
  obtain ⟨I0, hI0⟩ : ∃ I0, Hid (I0 = idL m.length m.length) := ⟨_, rfl⟩
  obtain ⟨dx, hdx⟩ : ∃ dx, Hid (dx = detM x) := ⟨_, rfl⟩
  obtain ⟨tr, htr⟩ : ∃ tr, Hid (tr = trL m) := ⟨_, rfl⟩
  rw [← hI0.out] at g4 g5
  rw [← hdx.out] at g6 g10 g11
  rw [← htr.out] at g7
  have hxl : x.length ≤ 20 := by omega
  obtain ⟨t1, t2, t3, t4, t5⟩ := trL_VR (n := m.length) (by omega) (by have := (validM_true.1 HVM.out).1; rwa [← HSL.out] at this) rfl (by omega)
  rw [← htr.out] at t1 t2
  have HTV := Lib.hid t1
  have htl : tr.length ≤ 20 := by omega
  have HXV := Lib.hid (validM_true.1 g1).1
  have hIL : Hid (I0.length = m.length) := by rw [hI0.out]; exact idL_length _ _
  have hIL2 : I0.length ≤ 20 := by rw [hIL.out]; exact h20
  have HIR : Hid (∀ xs ∈ I0, xs.length ≤ 1099511627776) := fun xs hx => by
    rw [hI0.out] at hx
    unfold idL at hx
    obtain ⟨i, _, rfl⟩ := List.mem_map.1 hx
    rw [unitV_length]
    omega
  have CM1 : Hid (∀ W, Ext w2 W → Calls Try.prog 29 #[.slice am m.length cm, .slice a2 x.length c2] W (NewM W I0)) := fun W hE => by
    have := implMulMatrices_ok am a2 cm c2 m x W (HM2.out.ext hE) (hX2.out.ext hE) HVM.out g1 (by have := HSL.out; omega)
    rwa [g4] at this
  have CM2 : Hid (∀ W, Ext w2 W → Calls Try.prog 29 #[.slice a2 x.length c2, .slice am m.length cm] W (NewM W I0)) := fun W hE => by
    have := implMulMatrices_ok a2 am c2 cm x m W (hX2.out.ext hE) (HM2.out.ext hE) g1 HVM.out g2
    rwa [g5] at this
  have CId : Hid (∀ W, Calls Try.prog 30 #[.int .i64 m.length] W (NewM W I0)) := fun W => by
    rw [hI0.out]
    exact specIdent_ok m.length W (by omega)
  have CSR : Hid (∀ W a b c d, MatR W a I0 → MatR W b I0 → Calls Try.prog 28 #[.slice a I0.length c, .slice b I0.length d] W (Quiet W (.bool true))) := fun W a b c d h h' => sameRows_slf a b c d I0 W h h' (by omega) HIR.out
  have CDx : Hid (∀ W, Ext w2 W → Calls Try.prog 17 #[.slice a2 x.length c2] W (Gives W (.int .i64 dx))) := fun W hE => by
    rw [hdx.out]
    exact implDeterminant_ok a2 c2 x W (hX2.out.ext hE) (by omega) (fun xs hx => by have := (validV_true.1 (HXV.out xs hx).1).2; omega)
  have CMF : Hid (∀ W, Calls Try.prog 31 #[.int .i64 d, .int .i64 dx] W fun e w' => e = .returned (.int .i64 1) ∧ W = w') := fun W => by
    have := specMulField_ok d dx W (inR_true.2 ⟨g8, g9⟩) (inR_true.2 ⟨g10, g11⟩)
    rwa [g6] at this
  have CTr : Hid (∀ W, Ext w2 W → Calls Try.prog 32 #[.slice am m.length cm] W (NewM W tr)) := fun W hE => by
    rw [htr.out]
    exact implTranspose_ok am cm m W (HM2.out.ext hE) HVM.out
  have CDt : Hid (∀ W b f, MatR W b tr → Calls Try.prog 17 #[.slice b tr.length f] W (Gives W (.int .i64 d))) := fun W b f h => by
    have := implDeterminant_ok b f tr W h (by omega) (fun xs hx => by have := (validV_true.1 (HTV.out xs hx).1).2; omega)
    rwa [g7] at this
  have i4 : (d == d) = true := eq_of rfl
  have EW := E2
  clear FA g1 g2 g3 g4 g5 g6 g7 g8 g9 g10 g11 t1 t2 t3 t4 t5 hI0 hdx htr hm0 HIR HXV HTV hIL E2 HM2 hX2
  go_wp2_with fail
  (with_reducible refine (CM1.out _ X5).mono ?_)
  rintro e v1 ⟨b1, d1, rfl, o1, f1⟩
  have Y1 := X5.trans f1
  go_wp2_with fail
  (with_reducible refine (CId.out _).mono ?_)
  rintro e v2 ⟨b2, d2, rfl, o2, f2⟩
  have Y2 := Y1.trans f2
  go_wp2_with fail
  (with_reducible refine (CSR.out _ _ _ _ _ (o1.reads.ext f2) o2.reads).mono ?_)
  rintro e v3 ⟨rfl, f3⟩
  have Y3 := Y2.trans f3.ext
  clear o1 o2 f1 f2 f3 X5 Y1 Y2
  go_wp2_with fail
  (with_reducible refine (CM2.out _ Y3).mono ?_)
  rintro e v4 ⟨b4, d4, rfl, o4, f4⟩
  have Y4 := Y3.trans f4
  go_wp2_with fail
  (with_reducible refine (CId.out _).mono ?_)
  rintro e v5 ⟨b5, d5, rfl, o5, f5⟩
  have Y5 := Y4.trans f5
  go_wp2_with fail
  (with_reducible refine (CSR.out _ _ _ _ _ (o4.reads.ext f5) o5.reads).mono ?_)
  rintro e v6 ⟨rfl, f6⟩
  have Y6 := Y5.trans f6.ext
  clear o4 o5 f4 f5 f6 Y3 Y4 Y5
  go_wp2_with fail
  (with_reducible refine (CDx.out _ Y6).mono ?_)
  rintro e v7 ⟨rfl, f7⟩
  have Y7 := Y6.trans f7
  go_wp2_with fail
  (with_reducible refine (CMF.out _).mono ?_)
  rintro e v8 ⟨rfl, rfl⟩
  go_wp2_with fail
  (with_reducible refine (CTr.out _ Y7).mono ?_)
  rintro e v9 ⟨b9, d9, rfl, o9, f9⟩
  have Y9 := Y7.trans f9
  go_wp2_with fail
  (with_reducible refine (CDt.out _ _ _ o9.reads).mono ?_)
  rintro e v10 ⟨rfl, f10⟩
  go_wp2_with fail
  go_ret
  exact ⟨rfl, EW.trans (Y9.trans f10)⟩

end Go.Proofs.Ytninamlcffemoaa
