/- FnSymbols: the law. -/
import Derived.Test.YtkegknophppdgaaDsy
import Derived.Test.YtkegknophppdgaaStbW
import Derived.Test.YtkegknophppdgaaSame
import Derived.Test.YtkegknophppdgaaLawTot
namespace Go.Proofs.Ytkegknophppdgaa
open Go.RowKit
set_option linter.unusedVariables false
set_option maxRecDepth 20000

theorem sameRowsG_self (a b : Option Addr) (c d : Nat) (xss : List (List Int)) (w : World) (h : MatR w a xss) (h' : MatR w b xss) (hl : xss.length ≤ 1099511627776) (hr : ∀ xs ∈ xss, xs.length ≤ 1099511627776) :
    Calls Try.prog 76 #[.slice a xss.length c, .slice b xss.length d] w (Quiet w (.bool true)) := by
  have := sameRows_ok a b c d xss xss w h h' hl hr
  rw [show decide (xss = xss) = true from decide_eq_true rfl] at this
  exact this
theorem sameBytesG_self (a b : Option Addr) (c d : Nat) (xs : List Int) (w : World) (h : Vals w a (Y xs)) (h' : Vals w b (Y xs)) (hl : xs.length ≤ 1099511627776) :
    Calls Try.prog 59 #[.slice a xs.length c, .slice b xs.length d] w (Quiet w (.bool true)) := by
  have := sameBytes_ok a b c d xs xs w h h' hl
  rw [show decide (xs = xs) = true from decide_eq_true rfl] at this
  exact this

set_option maxHeartbeats 8000000 in
set_option maxRecDepth 100000 in
theorem lawFnSymbols (a : Option Addr) (c : Nat) (xs : List Int) (w : World) (r0 : Vals w a (Y xs)) (m0 : xs.length ≤ maxLen) (m1 : ∀ x ∈ xs, 0 ≤ x ∧ x ≤ 255) :
    Calls Try.prog 12 #[.slice a xs.length c] w (Gives w (.bool true)) := by
  by_cases hl : xs.length ≤ 1048576
  rotate_left
  · have C1 := Lib.hid (big_yes a c xs w hl m0)
    clear r0 m1 hl m0
    go_enter Try.func12, Try.ntmps12
    go_wp2_with (go_at_call 57; (with_reducible refine C1.out.mono ?_); rintro e w' ⟨rfl, rfl⟩)
    go_ret
    exact ⟨rfl, Ext.refl _⟩
  have C1 := Lib.hid (big_no a c xs w hl)
  have CD := Lib.hid (drawBytesW_ok a c xs w r0 m1 hl)
  have CE := Lib.hid (fun W (he : Ext w W) => drawSymbols_ok a c xs W (r0.ext he) m1 hl)
  clear r0 m1 m0 hl
  go_enter Try.func12, Try.ntmps12
  go_wp2_with (go_at_call 57; (with_reducible refine C1.out.mono ?_); rintro e w' ⟨rfl, rfl⟩)
  (with_reducible refine CD.out.mono ?_)
  rintro e w1 ⟨az, cz, zs, m, rfl, ⟨hzb, hzl, hzc, hm0, hm1⟩, hZ, e1⟩
  have HZB := Lib.hid hzb
  have CB := Lib.hid (implBytesToSymbols_ok az cz zs m w1 hZ (by omega) hzb)
  obtain ⟨ls, hls⟩ : ∃ ls, Hid (ls = syms zs m) := ⟨_, rfl⟩
  rw [← hls.out] at CB
  clear hzb CD C1
  go_wp2_with fail
  (with_reducible refine CB.out.mono ?_)
  rintro e w2 ⟨al, cl, rfl, oL, e2⟩
  have E2 := e1.trans e2
  have Z2 := hZ.ext e2
  have L2 := oL.reads
  have CE2 := Lib.hid (CE.out w2 E2)
  clear CB oL e1 e2 hZ CE
  go_wp2_with fail
  (with_reducible refine CE2.out.mono ?_)
  rintro e w3 ⟨aM, cM, M, rfl, ⟨hMl, hMb⟩, hM, e3⟩
  have HMB : Hid (∀ xs ∈ M, xs.length ≤ 1048576) := fun xs hx => Nat.le_trans (hMb xs hx) (by omega)
  have HMB2 : Hid (∀ xs ∈ M, xs.length ≤ 1099511627776) := fun xs hx => Nat.le_trans (hMb xs hx) (by omega)
  have HMT : Hid (tot M ≤ 1048576) := by
    have := tot_le hMb
    exact Lib.hid (by omega)
  have E3 := E2.trans e3
  have Z3 := Z2.ext e3
  have L3 := L2.ext e3
  have CI := Lib.hid (implSymbolsToBytes_ok aM cM M w3 hM (by omega) HMB.out)
  have CS := Lib.hid (fun W (he : Ext w3 W) => specSymbolsToBytes_ok aM cM M W (hM.ext he) (by omega) HMB.out HMT.out)
  have HU : Hid (usOk M = true → AllB (usD M) ∧ syms (usD M) (cols M) = M) := fun h => by
    cases hu : unsym M with
    | none => rw [(us_none hu).2] at h; cases h
    | some ds =>
      obtain ⟨h1, h2, h3, h4⟩ := unsym_sound hu
      rw [(us_some hu).1]
      exact ⟨h1, h4⟩
  obtain ⟨y, hy⟩ : ∃ y, Hid (y = usD M) := ⟨_, rfl⟩
  obtain ⟨q, hq⟩ : ∃ q, Hid (q = usOk M) := ⟨_, rfl⟩
  rw [← hy.out, ← hq.out] at CI CS HU
  have hyl : y.length ≤ 1048576 := by rw [hy.out]; exact us_len M
  clear hMb E2 Z2 L2 e3 CE2 hy hq
  go_wp2_with fail
  (with_reducible refine CI.out.mono ?_)
  rintro e w4 ⟨a4, c4, rfl, o4, e4⟩
  have CS4 := Lib.hid (CS.out w4 e4)
  clear CI CS
  go_wp2_with fail
  (with_reducible refine CS4.out.mono ?_)
  rintro e w5 ⟨a5, c5, rfl, o5, e5⟩
  have e45 := e4.trans e5
  have E5 := E3.trans e45
  have Z5 := Z3.ext e45
  have L5 := L3.ext e45
  have M5 := hM.ext e45
  have y5 := o4.vals.ext e5
  clear CS4 E3 Z3 L3 hM o4 o5 e4 e5 e45
  -- what is left behind the drawn symbols
  have LIN : Hid (¬ (1 ≤ m ∧ m ≤ 16 ∧ zs.length ≤ 400) → ls = []) := fun h => by
    rw [hls.out]
    by_cases c1 : inR m 1 16 = true
    · exact syms_no (.inr (by have := inR_true.1 c1; omega))
    · exact syms_no (.inl (by simpa using c1))
  have LYE : Hid (1 ≤ m ∧ m ≤ 16 ∧ zs.length ≤ 400 → usD ls = zs ∧ usOk ls = true ∧ 0 < ls.length ∧ ls.length ≤ 500 ∧ (∀ xs ∈ ls, (xs.length : Int) = m)) := fun h => by
    have hin : inR m 1 16 = true := inR_true.2 (by omega)
    obtain ⟨k, rfl⟩ := Int.eq_ofNat_of_zero_le hm0
    obtain ⟨z, f1, f2, f3, f4⟩ := syms_flat (ds := zs) hin h.2.2
    obtain ⟨s1, s2, s3⟩ := syms_small (ds := zs) (m := k) (by omega) h.2.2
    have hu : unsym (syms zs (k : Int)) = some zs := unsym_some HZB.out h.2.2 (by rw [f4]; exact hin) (by rw [f4])
    rw [hls.out]
    exact ⟨(us_some hu).1, (us_some hu).2, by omega, by omega, fun xs hx => by have := s3 xs hx; omega⟩
  cases q
  · obtain ⟨wz, hwz⟩ : ∃ wz, wz = w5 := ⟨_, rfl⟩
    subst hwz
    have EZ := E5
    have ZZ := Z5
    have LZ := L5
    clear E5 Z5 L5 M5 y5
    by_cases hin : 1 ≤ m ∧ m ≤ 16 ∧ zs.length ≤ 400
    rotate_left
    · have hl0 := LIN.out hin
      subst hl0
      have h4 : m < 1 ∨ (¬ m < 1 ∧ 16 < m) ∨ (¬ m < 1 ∧ ¬ 16 < m ∧ (400 : Int) < (zs.length : Int)) := by omega
      clear hin
      rcases h4 with h | ⟨h, h'⟩ | ⟨h, h', h''⟩
      all_goals
        go_wp2_with fail
        go_ret
        exact ⟨rfl, EZ⟩
    · obtain ⟨y1, y2, y3, y4, y5⟩ := LYE.out hin
      have Y5 := Lib.hid y5
      have t1 : decide (m < 1) = false := decide_eq_false (by omega)
      have t2 : decide (16 < m) = false := decide_eq_false (by omega)
      have t3 : decide ((400 : Int) < (zs.length : Int)) = false := decide_eq_false (by omega)
      have t3' : decide (400 < zs.length) = false := decide_eq_false (by omega)
      have j1 : (0 : Int) < (ls.length : Int) := by omega
      have HLB : Hid (∀ xs ∈ ls, xs.length ≤ 1048576) := fun xs hx => by have := Y5.out xs hx; omega
      have CI := implSymbolsToBytes_ok al cl ls wz LZ (by omega) HLB.out
      rw [y1, y2] at CI
      have CI' := Lib.hid CI
      clear hin y1 y2 y5 CI
      go_wp2_with fail
      (with_reducible refine CI'.out.mono ?_)
      rintro e u1 ⟨b1, d1, rfl, p1, e1⟩
      have E1 := EZ.trans e1
      have L1 := LZ.ext e1
      have S := Lib.hid (sameBytesG_self b1 az d1 cz zs u1 p1.vals (ZZ.ext e1) (by omega))
      clear CI' p1 e1 ZZ LZ EZ
      go_wp2_with fail
      (with_reducible refine S.out.mono ?_)
      rintro e u2 ⟨rfl, n2, rfl⟩
      have E2 := E1.drewN n2
      have L2 := L1.ext ((Ext.refl u1).drewN n2)
      generalize u1.drewN n2 = u2 at *
      obtain ⟨b, o, ra, rc, xs0, rfl, _, hx, hc, _⟩ := L2.at_ (show 0 < ls.length by omega)
      have hc0 : u2.cell? ⟨b, o, none⟩ = some (.slice ra xs0.length rc) := hc
      have t4 : ((xs0.length : Int) == m) = true := beq_iff_eq.2 (Y5.out xs0 (List.mem_of_getElem? hx.out))
      clear hc E1 L1 S
      go_wp2_with fail
      go_ret
      exact ⟨rfl, E2⟩
  · obtain ⟨h1, h2⟩ := HU.out rfl
    have CB := implBytesToSymbols_ok a4 c4 y (cols M : Int) w5 y5 hyl h1
    rw [h2] at CB
    have CB' := Lib.hid CB
    clear CB h1 h2
    go_wp2_with (go_at_call 77; (with_reducible refine (specColumnsOf_ok _ _ _ _ M5).mono ?_); rintro e w' ⟨rfl, rfl⟩)
    (with_reducible refine CB'.out.mono ?_)
    rintro e w6 ⟨a6, c6, rfl, o6, e6⟩
    have S := Lib.hid (sameRowsG_self a6 aM c6 cM M w6 o6.reads (M5.ext e6) (by omega) HMB2.out)
    have E6 := E5.trans e6
    have Z6 := Z5.ext e6
    have L6 := L5.ext e6
    clear CB' o6 e6 E5 Z5 L5 M5 y5
    go_wp2_with fail
    (with_reducible refine S.out.mono ?_)
    rintro e w7 ⟨rfl, n7, rfl⟩
    have EZ := E6.drewN n7
    have ZZ := Z6.ext ((Ext.refl w6).drewN n7)
    have LZ := L6.ext ((Ext.refl w6).drewN n7)
    generalize w6.drewN n7 = wz at *
    clear E6 Z6 L6 S
    by_cases hin : 1 ≤ m ∧ m ≤ 16 ∧ zs.length ≤ 400
    rotate_left
    · have hl0 := LIN.out hin
      subst hl0
      have h4 : m < 1 ∨ (¬ m < 1 ∧ 16 < m) ∨ (¬ m < 1 ∧ ¬ 16 < m ∧ (400 : Int) < (zs.length : Int)) := by omega
      clear hin
      rcases h4 with h | ⟨h, h'⟩ | ⟨h, h', h''⟩
      all_goals
        go_wp2_with fail
        go_ret
        exact ⟨rfl, EZ⟩
    · obtain ⟨y1, y2, y3, y4, y5⟩ := LYE.out hin
      have Y5 := Lib.hid y5
      have t1 : decide (m < 1) = false := decide_eq_false (by omega)
      have t2 : decide (16 < m) = false := decide_eq_false (by omega)
      have t3 : decide ((400 : Int) < (zs.length : Int)) = false := decide_eq_false (by omega)
      have t3' : decide (400 < zs.length) = false := decide_eq_false (by omega)
      have j1 : (0 : Int) < (ls.length : Int) := by omega
      have HLB : Hid (∀ xs ∈ ls, xs.length ≤ 1048576) := fun xs hx => by have := Y5.out xs hx; omega
      have CI := implSymbolsToBytes_ok al cl ls wz LZ (by omega) HLB.out
      rw [y1, y2] at CI
      have CI' := Lib.hid CI
      clear hin y1 y2 y5 CI
      go_wp2_with fail
      (with_reducible refine CI'.out.mono ?_)
      rintro e u1 ⟨b1, d1, rfl, p1, e1⟩
      have E1 := EZ.trans e1
      have L1 := LZ.ext e1
      have S := Lib.hid (sameBytesG_self b1 az d1 cz zs u1 p1.vals (ZZ.ext e1) (by omega))
      clear CI' p1 e1 ZZ LZ EZ
      go_wp2_with fail
      (with_reducible refine S.out.mono ?_)
      rintro e u2 ⟨rfl, n2, rfl⟩
      have E2 := E1.drewN n2
      have L2 := L1.ext ((Ext.refl u1).drewN n2)
      generalize u1.drewN n2 = u2 at *
      obtain ⟨b, o, ra, rc, xs0, rfl, _, hx, hc, _⟩ := L2.at_ (show 0 < ls.length by omega)
      have hc0 : u2.cell? ⟨b, o, none⟩ = some (.slice ra xs0.length rc) := hc
      have t4 : ((xs0.length : Int) == m) = true := beq_iff_eq.2 (Y5.out xs0 (List.mem_of_getElem? hx.out))
      clear hc E1 L1 S
      go_wp2_with fail
      go_ret
      exact ⟨rfl, E2⟩

end Go.Proofs.Ytkegknophppdgaa
