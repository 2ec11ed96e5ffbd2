/- Contract of CombinePackets (reference). -/
import Derived.Test.YtkegknophppdgaaCpp
namespace Go.Proofs.Ytkegknophppdgaa
open Go.RowKit
set_option linter.unusedVariables false
set_option maxRecDepth 20000

theorem HS.new (w0 w : World) (B : Nat) (hB : B ≤ w.heap.size) : HS w0 (w.alloc (.cells #[] 32)) B (some ⟨w.heap.size, 0, none⟩) 0 [] :=
  ⟨[], rfl, ⟨by simp [RV], .inr ⟨w.heap.size, 0, #[], rfl, hB, heap_alloc_new w _, Nat.le_refl _, by unfold maxLen; omega, by simp, by simp [RV]⟩⟩, fun i r xs hr => by simp at hr⟩

set_option maxHeartbeats 8000000 in
set_option maxRecDepth 100000 in
theorem specCombinePackets_ok (a : Option Addr) (c : Nat) (ps : List Pk) (b : Option Addr) (d : Nat) (cs : List Int) (w : World) (h : SRp w a ps) (h' : Vals w b (I cs)) (hl : ps.length ≤ 1048576) (hr : ∀ p ∈ ps, p.2.1.length ≤ 1048576 ∧ p.2.2.length ≤ 1048576) (hm' : cs.length ≤ 1048576) :
    Calls Try.prog 24 #[.slice a ps.length c, .slice b cs.length d] w (NewPkF w (cpN ps cs) (cpU ps cs) (cpV ps cs) (cpOk ps cs)) := by
  have HR := Lib.hid hr
  have HA := Lib.hid h
  have HB := Lib.hid h'
  clear hr h h'
  have bad : Hid (cpOk ps cs = false → ∀ W, Ext w W → NewPkF w (cpN ps cs) (cpU ps cs) (cpV ps cs) (cpOk ps cs) (.returned (.tuple #[pkV 0 none 0 [] none 0 [], .bool false])) W) := fun hb W hW => by
    unfold cpN cpU cpV
    rw [hb]
    exact ⟨none, 0, none, 0, rfl, OwnI.nil _ _, OwnI.nil _ _, fun k hk => by simp [blockOf] at hk, hW⟩
  go_enter Try.func24, Try.ntmps24
  go_wp2_with fail
  go_loopw [6, 7, 8] (fun v u i wr => ∃ (k : Nat) (a1 : Option Addr) (c1 : Nat) (a2 : Option Addr) (c2 : Nat) (xss yss : List (List Int)), k ≤ ps.length ∧ i = .int .i64 k ∧ v = .slice a1 xss.length c1 ∧ u = .slice a2 yss.length c2 ∧ Hid (xss = colX ps k) ∧ Hid (yss = colY ps k) ∧ Hid (sameTo ps k = true) ∧ HS w wr (w.heap.size + 1) a1 c1 xss ∧ HS w wr (w.heap.size + 1) a2 c2 yss ∧ Apart a1 a2 ∧ Hid (Ext (w.alloc (.cells #[.int .i64 0, .slice none 0 0, .slice none 0 0] 35)) wr)) (fun _ _ i _ => ps.length - (intOf i).toNat)
  case atStart =>
    have N1 := HS.new w (w.alloc (.cells #[.int .i64 0, .slice none 0 0, .slice none 0 0] 35)) (w.heap.size + 1) (by simp)
    have N2 := HS.new w ((w.alloc (.cells #[.int .i64 0, .slice none 0 0, .slice none 0 0] 35)).alloc (.cells #[] 32)) (w.heap.size + 1) (by simp)
    have s1 : (w.alloc (.cells #[.int .i64 0, .slice none 0 0, .slice none 0 0] 35)).heap.size = w.heap.size + 1 := by simp
    have s2 : ((w.alloc (.cells #[.int .i64 0, .slice none 0 0, .slice none 0 0] 35)).alloc (.cells #[] 32)).heap.size = w.heap.size + 1 + 1 := by simp
    rw [s1] at N1
    rw [s2] at N2
    exact ⟨0, some ⟨w.heap.size + 1, 0, none⟩, 0, some ⟨w.heap.size + 1 + 1, 0, none⟩, 0, [], [], Nat.zero_le _, rfl, rfl, rfl, rfl, rfl, rfl, N1.ext ((Ext.refl _).alloc _), N2, fun k h1 h2 => by simp [blockOf] at h1 h2; omega, ((Ext.refl _).alloc _).alloc _⟩
  case round =>
    obtain ⟨k, a1, c1, a2, c2, xss, yss, hk, rfl, rfl, rfl, HX, HY, HJ, ho1, ho2, hap, HE⟩ := hrel
    have E0 := Lib.hid (((Ext.refl w).alloc (.cells #[.int .i64 0, .slice none 0 0, .slice none 0 0] 35)).trans HE.out)
    have hzw : w.heap.size < wr.heap.size := by have := HE.out.size_le; simp at this; omega
    by_cases hlt : k < ps.length
    · obtain ⟨bb, o, ra, rc, sa, sc, n, xs, ys, rfl, hb, hx, hc0, hc1, hc2, hM, hN⟩ := SR.pk HA.out hlt
      obtain ⟨bb', o', ra', rc', sa', sc', n0, xs0, ys0, hab, _, hx0, hd0, _, _, _, _⟩ := SR.pk HA.out (k := 0) (by omega)
      obtain ⟨rfl, rfl⟩ : bb = bb' ∧ o = o' := by
        injection hab with hab
        injection hab with h1 h2
        exact ⟨h1, h2⟩
      rw [Nat.zero_mul, Nat.add_zero] at hd0
      have hw0 := E0.out.cell hc0
      have hw1 := E0.out.cell hc1
      have hw2 := E0.out.cell hc2
      have hq0 := E0.out.cell hd0
      have hbw : bb < wr.heap.size := World.block_lt_of_cell? _ _ hw0
      have hbne : bb ≠ wr.heap.size := by omega
      have i1 : (k : Int) < (ps.length : Int) := by omega
      have j1 : (0 : Int) < (ps.length : Int) := by omega
      have j2 : 0 < ps.length := by omega
      have j3 : ps ≠ [] := fun e => by rw [e] at j2; simp at j2
      by_cases hn : n = n0
      · have hne : (n != n0) = false := by rw [hn]; simp
        have HJ2 : Hid (sameTo ps (k + 1) = true) := same_succ hx.out (by rw [hn]; exact hx0.out) HJ.out
        have hxl : xss.length ≤ 1048576 := by rw [HX.out]; exact Nat.le_trans (colX_len _ _) hl
        have hyl : yss.length ≤ 1048576 := by rw [HY.out]; exact Nat.le_trans (colY_len _ _) hl
        obtain ⟨zss, hzs⟩ : ∃ zss, Hid (zss = xss ++ [xs]) := ⟨_, rfl⟩
        have HZ : Hid (zss = colX ps (k + 1)) := by rw [hzs.out, colX_succ hx.out, ← HX.out]; exact Lib.hid rfl
        obtain ⟨tss, hts⟩ : ∃ tss, Hid (tss = yss ++ [ys]) := ⟨_, rfl⟩
        have HT : Hid (tss = colY ps (k + 1)) := by rw [hts.out, colY_succ hx.out, ← HY.out]; exact Lib.hid rfl
        clear hab hx0 hc0 hc1 hc2 hd0 hn hx
        go_wp2_with fail
        go_quiet (fail)
        have F1 := ((Ext.refl wr).drewN nq).alloc (.cells #[.slice ra xs.length rc] 32)
        have HF1 := Lib.hid F1
        have z1 := F1.size_le
        have b1 := ho1.block
        have b2 := ho2.block
        have z2 : wr.heap.size < ((wr.drewN nq).alloc (.cells #[.slice ra xs.length rc] 32)).heap.size := by simp
        have z0 : w.heap.size + 1 ≤ wr.heap.size := hzw
        have HD3 := Lib.hid (F1.cell hw2)
        have hq7 : (wr.drewN nq).heap.size = wr.heap.size := by simp
        have V7 := Vals.new (wr.drewN nq) [.slice ra xs.length rc] 32
        rw [hq7] at V7
        replace V7 := Lib.hid V7
        clear F1 hq7
        go_wp2_with (at_builtin; refine wpList_appH w _ rfl _ _ rfl (w.heap.size + 1) a1 c1 xss rfl (ho1.ext HF1.out) _ _ ra rc xs rfl V7.out hM zss hzs.out (by omega) (Nat.le_trans z0 z1) ?_)
        intro a7 c7 w7 h7 g7 at7
        have hne7 : some bb ≠ blockOf a1 := fun e => by have := (b1 _ e.symm).1; omega
        have D7 := g7.cell HD3.out hne7
        have E7 := (E0.out.trans HF1.out).grown g7 (fun k hk => by have := (b1 k hk).1; omega)
        have U7 : Hid (Ext (w.alloc (.cells #[.int .i64 0, .slice none 0 0, .slice none 0 0] 35)) w7) := (HE.out.trans HF1.out).grown g7 (fun k hk => by have := (b1 k hk).1; simp; omega)
        have q2 := (ho2.ext HF1.out).kept g7 (fun k hk e => hap k e hk)
        have b7 := h7.block
        have ap7 : Apart a7 a2 := fun k h1 h2 => by
          rcases at7 with e | e
          · exact hap k (e.symm.trans h1) h2
          · rw [e] at h1
            injection h1 with h1
            have := (b2 k h2).2
            omega
        have z7 := g7.size
        clear g7 at7 ho1 ho2 HE HF1 HD3 hw0 hw1 hw2 hq0
        have z8 : wr.heap.size < w7.heap.size := Nat.lt_of_lt_of_le z2 z7
        go_wp2_with (at_builtin; refine wpList_appH w _ rfl _ _ rfl (w.heap.size + 1) a2 c2 yss rfl (q2.ext ((Ext.refl w7).alloc _)) _ _ sa sc ys rfl (Vals.new _ [.slice sa ys.length sc] 32) hN tss hts.out (by omega) (by simp; omega) ?_)
        intro a8 c8 w8 h8 g8 at8
        have U8 : Hid (Ext (w.alloc (.cells #[.int .i64 0, .slice none 0 0, .slice none 0 0] 35)) w8) := (U7.out.alloc (.cells #[.slice sa ys.length sc] 32)).grown g8 (fun k hk => by have := (b2 k hk).1; simp; omega)
        have h7' := (h7.ext ((Ext.refl w7).alloc (.cells #[.slice sa ys.length sc] 32))).kept g8 (fun k hk e => ap7 k hk e)
        have ap8 : Apart a7 a8 := fun k h1 h2 => by
          rcases at8 with e | e
          · exact ap7 k h1 (e.symm.trans h2)
          · rw [e] at h2
            injection h2 with h2
            have := (b7 k h1).2
            (try simp at h2)
            omega
        clear g8 at8 U7 q2 h7 E7 D7 E0
        go_wp2_with fail
        go_roundw
        case rel => exact ⟨k + 1, a7, c7, a8, c8, zss, tss, by omega, by go_num, rfl, rfl, HZ, HT, HJ2, h7', h8, ap8, U8⟩
        case measure => simp [intOf]; omega
      · have HQ := Lib.hid (cp_bad (cs := cs) hx.out hx0.out hn)
        have hne : (n != n0) = true := by simpa using hn
        obtain ⟨kk, ff⟩ := HE.out.look
        simp at kk ff
        clear hab hx0 hc0 hc1 hc2 hd0 hn hx
        go_wp2_with fail
        go_quiet (fail)
        go_wp2_with fail
        refine bodyPost_ret (v := .tuple #[pkV 0 none 0 [] none 0 [], .bool false]) (by simp only [results, Try.results24]; go_simp) rfl (bad.out HQ.out _ ?_)
        exact (((E0.out.drewN nq).setCell (Nat.le_refl _) _).setCell (Nat.le_refl _) _).setCell (Nat.le_refl _) _
    · obtain rfl : k = ps.length := by omega
      have hxl : xss.length ≤ 1048576 := by rw [HX.out]; exact Nat.le_trans (colX_len _ _) hl
      have hyl : yss.length ≤ 1048576 := by rw [HY.out]; exact Nat.le_trans (colY_len _ _) hl
      have CX := specCombine_ok a1 b c1 d xss cs wr (ho1.reads E0.out) (HB.out.ext E0.out) hxl (fun xs hx => by
        rw [HX.out] at hx
        unfold colX at hx
        rw [List.take_length] at hx
        obtain ⟨p, hp, rfl⟩ := List.mem_map.1 hx
        exact (HR.out p hp).1) hm'
      have CY : Hid (∀ W, Ext wr W → Calls Try.prog 100 #[.slice a2 yss.length c2, .slice b cs.length d] W (NewI W (comb yss cs))) := fun W hW => specCombine_ok a2 b c2 d yss cs W ((ho2.reads E0.out).ext hW) (HB.out.ext (E0.out.trans hW)) hyl (fun xs hx => by
        rw [HY.out] at hx
        unfold colY at hx
        rw [List.take_length] at hx
        obtain ⟨p, hp, rfl⟩ := List.mem_map.1 hx
        exact (HR.out p hp).2) hm'
      obtain ⟨x, hx⟩ : ∃ x, Hid (x = comb xss cs) := ⟨_, rfl⟩
      obtain ⟨y, hy⟩ : ∃ y, Hid (y = comb yss cs) := ⟨_, rfl⟩
      have hX : Hid (x = cpX ps cs) := by rw [hx.out, HX.out]; exact Lib.hid rfl
      have hY : Hid (y = cpY ps cs) := by rw [hy.out, HY.out]; exact Lib.hid rfl
      rw [← hx.out] at CX
      rw [← hy.out] at CY
      replace CX := Lib.hid CX
      have hOK : Hid (cpOk ps cs = (decide (¬ x.length = 0) && decide (¬ y.length = 0))) := by unfold cpOk; rw [HJ.out, ← hX.out, ← hY.out, Bool.true_and]; exact Lib.hid rfl
      have hxe : ps.length = 0 → x.length = 0 := fun e => by
        rw [hx.out, HX.out]
        have : colX ps ps.length = [] := by unfold colX; rw [e]; rfl
        rw [this]
        rfl
      have HXE := Lib.hid hxe
      clear hxe ho1 ho2 HX HY hx hy hap
      by_cases hx0 : x.length = 0
      · have HQ : Hid (cpOk ps cs = false) := by rw [hOK.out, decide_eq_false (show ¬ ¬ x.length = 0 by omega)]; exact Lib.hid rfl
        have hx1 := eq_of (show (x.length : Int) = 0 by omega)
        clear hx0
        go_wp2_with fail
        (with_reducible refine CX.out.mono ?_)
        rintro e v1 ⟨a3, c3, rfl, o3, e3⟩
        go_wp2_with fail
        (with_reducible refine (CY.out _ e3).mono ?_)
        rintro e v2 ⟨a4, c4, rfl, o4, e4⟩
        have UU := Lib.hid ((HE.out.trans e3).trans e4)
        have EE := Lib.hid ((E0.out.trans e3).trans e4)
        obtain ⟨kk, ff⟩ := UU.out.look
        have zz := UU.out.size_le
        simp at kk ff zz
        have hwv : w.heap.size < v2.heap.size := by omega
        have hwn : w.heap.size ≠ v2.heap.size := by omega
        clear e3 e4 o3 o4
        go_wp2_with fail
        refine bodyPost_ret (v := .tuple #[pkV 0 none 0 [] none 0 [], .bool false]) (by simp only [results, Try.results24]; go_simp) rfl (bad.out HQ.out _ ?_)
        exact ((EE.out.setCell (Nat.le_refl _) _).setCell (Nat.le_refl _) _).setCell (Nat.le_refl _) _
      · have hx1 := not_eq_of (show ¬ (x.length : Int) = 0 by omega)
        by_cases hy0 : y.length = 0
        · have HQ : Hid (cpOk ps cs = false) := by rw [hOK.out, decide_eq_false (show ¬ ¬ y.length = 0 by omega), Bool.and_false]; exact Lib.hid rfl
          have hy1 := eq_of (show (y.length : Int) = 0 by omega)
          clear hx0 hy0
          go_wp2_with fail
          (with_reducible refine CX.out.mono ?_)
          rintro e v1 ⟨a3, c3, rfl, o3, e3⟩
          go_wp2_with fail
          (with_reducible refine (CY.out _ e3).mono ?_)
          rintro e v2 ⟨a4, c4, rfl, o4, e4⟩
          have UU := Lib.hid ((HE.out.trans e3).trans e4)
          have EE := Lib.hid ((E0.out.trans e3).trans e4)
          obtain ⟨kk, ff⟩ := UU.out.look
          have zz := UU.out.size_le
          simp at kk ff zz
          have hwv : w.heap.size < v2.heap.size := by omega
          have hwn : w.heap.size ≠ v2.heap.size := by omega
          clear e3 e4 o3 o4
          go_wp2_with fail
          refine bodyPost_ret (v := .tuple #[pkV 0 none 0 [] none 0 [], .bool false]) (by simp only [results, Try.results24]; go_simp) rfl (bad.out HQ.out _ ?_)
          exact ((EE.out.setCell (Nat.le_refl _) _).setCell (Nat.le_refl _) _).setCell (Nat.le_refl _) _
        · have hy1 := not_eq_of (show ¬ (y.length : Int) = 0 by omega)
          have HQ : Hid (cpOk ps cs = true) := by rw [hOK.out, decide_eq_true hx0, decide_eq_true hy0]; exact Lib.hid rfl
          have j2 : 0 < ps.length := by have := HXE.out; omega
          have j1 : (0 : Int) < (ps.length : Int) := by omega
          have j3 : ps ≠ [] := fun e => by rw [e] at j2; simp at j2
          obtain ⟨bb, o, ra, rc, sa, sc, n0, xs0, ys0, rfl, hb, hx0', hd0, _, _, _, _⟩ := SR.pk HA.out (k := 0) j2
          rw [Nat.zero_mul, Nat.add_zero] at hd0
          have HN0 := Lib.hid (pkId_at hx0'.out)
          clear hx0 hy0 hx0'
          go_wp2_with fail
          (with_reducible refine CX.out.mono ?_)
          rintro e v1 ⟨a3, c3, rfl, o3, e3⟩
          go_wp2_with fail
          (with_reducible refine (CY.out _ e3).mono ?_)
          rintro e v2 ⟨a4, c4, rfl, o4, e4⟩
          have UU := Lib.hid ((HE.out.trans e3).trans e4)
          have EE := Lib.hid ((E0.out.trans e3).trans e4)
          have hq0 := EE.out.cell hd0
          obtain ⟨kk, ff⟩ := UU.out.look
          have zz := UU.out.size_le
          have z3 := e3.size_le
          have z4 := e4.size_le
          simp at kk ff zz
          have hbv : bb < v2.heap.size := by omega
          have hbn : bb ≠ v2.heap.size := by omega
          have hbw' : bb ≠ w.heap.size := by omega
          have hwv : w.heap.size < v2.heap.size := by omega
          have hwn : w.heap.size ≠ v2.heap.size := by omega
          go_wp2_with fail
          refine bodyPost_ret (v := .tuple #[pkV n0 a3 c3 x a4 c4 y, .bool true]) (by simp only [results, Try.results24]; go_simp) rfl ?_
          unfold cpN cpU cpV
          rw [HQ.out, if_pos rfl, if_pos rfl, if_pos rfl, HN0.out, ← hX.out, ← hY.out]
          have q1 : w.heap.size < wr.heap.size := hzw
          have q2 : w.heap.size < v1.heap.size := by omega
          have o3' := o3.ext e4
          refine ⟨a3, c3, a4, c4, rfl, ?_, ?_, ?_, ?_⟩
          · exact ((((o3'.setCell (p := ⟨w.heap.size, 0, none⟩) q1 _).setCell (p := ⟨w.heap.size, 1, none⟩) q1 _).setCell (p := ⟨w.heap.size, 2, none⟩) q1 _)).more (by omega)
          · exact ((((o4.setCell (p := ⟨w.heap.size, 0, none⟩) q2 _).setCell (p := ⟨w.heap.size, 1, none⟩) q2 _).setCell (p := ⟨w.heap.size, 2, none⟩) q2 _)).more (by omega)
          · intro k h1 h2
            have := (o3.block k h1).2
            have := (o4.block k h2).1
            omega
          · exact ((EE.out.setCell (Nat.le_refl _) _).setCell (Nat.le_refl _) _).setCell (Nat.le_refl _) _

end Go.Proofs.Ytkegknophppdgaa
