/- FnMessages: the law. -/
import Derived.Test.YtkegknophppdgaaMsg
import Derived.Test.YtkegknophppdgaaDsm
import Derived.Test.YtkegknophppdgaaApr
import Derived.Test.YtkegknophppdgaaSame
import Derived.Test.YtkegknophppdgaaLawTot
namespace Go.Proofs.Ytkegknophppdgaa
open Go.RowKit
set_option linter.unusedVariables false
set_option maxRecDepth 20000

theorem sameBytesM (a b : Option Addr) (c d : Nat) (xs : List Int) (w : World) (h : Vals w a (Y xs)) (h' : Vals w b (Y xs)) (hl : xs.length ≤ 1099511627776) :
    Calls Try.prog 59 #[.slice a xs.length c, .slice b xs.length d] w (Quiet w (.bool true)) := by
  have := sameBytes_ok a b c d xs xs w h h' hl
  rw [show decide (xs = xs) = true from decide_eq_true rfl] at this
  exact this

set_option maxHeartbeats 8000000 in
set_option maxRecDepth 100000 in
theorem lawFnMessages (a : Option Addr) (c : Nat) (xs : List Int) (w : World) (r0 : Vals w a (Y xs)) (m0 : xs.length ≤ maxLen) (m1 : ∀ x ∈ xs, 0 ≤ x ∧ x ≤ 255) :
    Calls Try.prog 10 #[.slice a xs.length c] w (Gives w (.bool true)) := by
  by_cases hl : xs.length ≤ 1048576
  rotate_left
  · have C1 := Lib.hid (big_yes a c xs w hl m0)
    clear r0 m1 hl m0
    go_enter Try.func10, Try.ntmps10
    go_wp2_with (go_at_call 57; (with_reducible refine C1.out.mono ?_); rintro e w' ⟨rfl, rfl⟩)
    go_ret
    exact ⟨rfl, Ext.refl _⟩
  have C1 := Lib.hid (big_no a c xs w hl)
  have CD := Lib.hid (drawSplit_ok a c xs w r0 m1 hl)
  clear r0 m1 m0 hl
  go_enter Try.func10, Try.ntmps10
  go_wp2_with (go_at_call 57; (with_reducible refine C1.out.mono ?_); rintro e w' ⟨rfl, rfl⟩)
  (with_reducible refine CD.out.mono ?_)
  rintro e w1 ⟨az, cz, zs, m, s, f, rfl, ⟨hzb, hzl, hm0, hm1, hs0, hs1, hf0, hf1⟩, hZ, e1⟩
  obtain ⟨G, hG⟩ : ∃ G, Hid (G = splG zs m s f) := ⟨_, rfl⟩
  have HM : Hid (¬ G.length = 0 → MsgG zs m s f G) := fun h => by
    have hne : splG zs m s f ≠ [] := fun e => h (by rw [hG.out, e]; rfl)
    rw [hG.out]
    exact msgG hzb hne
  have CB := Lib.hid (implSplitMessage_ok az cz zs m s f w1 hZ (by omega) hzb)
  have CS := Lib.hid (fun W (he : Ext w1 W) => specSplitMessage_ok az cz zs m s f W (hZ.ext he) (by omega) hzb)
  rw [← hG.out] at CB CS
  clear hzb hG C1 CD
  go_wp2_with fail
  (with_reducible refine CB.out.mono ?_)
  rintro e w2 ⟨al, cl, rfl, oL, e2⟩
  have hcap : G.length ≤ cl := by
    obtain ⟨hs, rg, g1, g2, g3, g4, _⟩ := oL
    rcases g4.2 with ⟨e1, e2⟩ | ⟨g, cap, cur, e1, _, _, e2, _⟩
    · omega
    · injection e1 with _ _ e3
      omega
  have L2 := oL.reads
  have Z2 := hZ.ext e2
  have E2 := e1.trans e2
  have CS2 := Lib.hid (CS.out w2 e2)
  clear CB CS oL hZ e1 e2
  go_wp2_with fail
  (with_reducible refine CS2.out.mono ?_)
  rintro e w3 ⟨a3, c3, rfl, o3, e3⟩
  have E3 := E2.trans e3
  have Z3 := Z2.ext e3
  have L3 := SRG.ext L2 e3
  clear o3 e3 E2 Z2 L2 CS2
  by_cases h0 : G.length = 0
  · have h1 := eq_of (show (G.length : Int) = 0 by omega)
    clear HM
    go_wp2_with fail
    go_ret
    exact ⟨rfl, E3⟩
  have M := HM.out h0
  have h1 := not_eq_of (show ¬ (G.length : Int) = 0 by omega)
  have hpos : 0 < G.length := by omega
  have hlen := M.len
  have HS : Hid (∀ g ∈ G, g.2.length ≤ 8 ∧ ∀ xs ∈ g.2, xs.length ≤ 16) := M.small
  have hsum := sumG_small M.small
  have CJ := implJoinGenerations_ok al cl G w3 L3 (by omega) (by omega) (fun g hg xs hx => by have := (HS.out g hg).2 xs hx; omega)
  rw [M.d, M.ok] at CJ
  have HM2 := Lib.hid M
  replace CJ := Lib.hid CJ
  clear M HM h0 hsum
  go_wp2_with fail
  (with_reducible refine CJ.out.mono ?_)
  rintro e w4 ⟨a4, c4, rfl, o4, e4⟩
  have E4 := E3.trans e4
  have Z4 := Z3.ext e4
  have L4 := SRG.ext L3 e4
  have S := Lib.hid (sameBytesM a4 az c4 cz zs w4 o4.vals Z4 (by omega))
  clear o4 e4 E3 Z3 L3 CJ
  go_wp2_with fail
  (with_reducible refine S.out.mono ?_)
  rintro e w5 ⟨rfl, n5, rfl⟩
  have E5 := Lib.hid (E4.drewN n5)
  have L5 := Lib.hid (SRG.ext L4 ((Ext.refl w4).drewN n5))
  clear E4 Z4 L4 S
  generalize w4.drewN n5 = w5 at *
  go_wp2_with fail
  go_loopw [10] (fun i wr => ∃ k : Nat, k ≤ G.length ∧ i = .int .i64 k ∧ Hid (Ext w wr) ∧ Hid (SR GK wr al G)) (fun i _ => G.length - (intOf i).toNat)
  case atStart => exact ⟨0, Nat.zero_le _, rfl, E5, L5⟩
  case round =>
    obtain ⟨k, hk, rfl, HE, HL⟩ := hrel
    by_cases hlt : k < G.length
    · obtain ⟨b, o, ra, rc, n, xss, rfl, hb, hx, hc0, hc1, hM⟩ := SR.gn HL.out hlt
      obtain ⟨q1, q2, q3, q4⟩ := HM2.out.at_ k n xss hx.out
      have i1 : (k : Int) < (G.length : Int) := by omega
      have hxs := HS.out _ (List.mem_of_getElem? hx.out)
      have CV := implIsValidGeneration_ok n ra rc xss wr hM (by have := hxs.1; simp at this; omega) (fun xs h => Nat.le_trans (hxs.2 xs h) (by omega))
      rw [q2] at CV
      replace CV := Lib.hid CV
      have CW : Hid (∀ W, Ext wr W → Calls Try.prog 61 #[bsV n ra rc xss] W (Gives W (.int .i64 m))) := fun W hE => by
        have := implSymbolWidth_ok n ra rc xss W (hM.ext hE)
        rw [q3] at this
        exact this
      have t1 : (n != f + (k : Int)) = false := by simp [q1]
      have t2 : (m != m) = false := by simp
      have t3 : (s != s) = false := by simp
      have hbw := World.block_lt_of_cell? _ _ hc0
      by_cases hk1 : k + 1 < G.length
      · have hk2 : (k : Int) < (G.length : Int) - 1 := by omega
        have CZ : Hid (∀ W, Calls Try.prog 62 #[bsV n ra rc xss] W (Gives W (.int .i64 s))) := fun W => by
          have := implGenerationSize_ok n ra rc xss W
          rw [q4 hk1] at this
          exact this
        clear hxs q1 q2 q3 q4 hx hM E5 L5
        go_wp2_with fail
        (with_reducible refine CV.out.mono ?_)
        rintro e v1 ⟨rfl, f1⟩
        have d0 := f1.cell hc0
        have d1 := f1.cell hc1
        go_wp2_with fail
        (with_reducible refine (CW.out _ f1).mono ?_)
        rintro e v2 ⟨rfl, f2⟩
        have g0 := f2.cell d0
        have g1 := f2.cell d1
        have f12 := f1.trans f2
        clear d0 d1 f1 f2
        go_wp2_with fail
        (with_reducible refine (CZ.out _).mono ?_)
        rintro e v3 ⟨rfl, f3⟩
        have f13 := f12.trans f3
        clear f12 f3
        go_wp2_with fail
        go_roundw
        case rel => exact ⟨k + 1, by omega, by go_num, HE.out.trans f13, SRG.ext HL.out f13⟩
        case measure => simp [intOf]; omega
      · have hk2 : ¬ (k : Int) < (G.length : Int) - 1 := by omega
        clear hxs q1 q2 q3 q4 hx hM E5 L5
        go_wp2_with fail
        (with_reducible refine CV.out.mono ?_)
        rintro e v1 ⟨rfl, f1⟩
        have d0 := f1.cell hc0
        have d1 := f1.cell hc1
        go_wp2_with fail
        (with_reducible refine (CW.out _ f1).mono ?_)
        rintro e v2 ⟨rfl, f2⟩
        have f12 := f1.trans f2
        clear d0 d1 f1 f2
        go_wp2_with fail
        go_roundw
        case rel => exact ⟨k + 1, by omega, by go_num, HE.out.trans f12, SRG.ext HL.out f12⟩
        case measure => simp [intOf]; omega
    · by_cases h2 : 1 < G.length
      rotate_left
      · have h2' : ¬ (1 : Int) < (G.length : Int) := by omega
        go_wp2_with fail
        go_ret
        exact ⟨rfl, HE.out⟩
      have h2' : (1 : Int) < (G.length : Int) := by omega
      obtain ⟨b, o, ra, rc, n, xss, rfl, hb, _, _, _, _⟩ := SR.gn HL.out (k := 0) hpos
      have hc1 : (1 : Int) ≤ (cl : Int) := by omega
      have hc2 : (2 : Int) ≤ (G.length : Int) := by omega
      obtain ⟨o2, hif, HD⟩ : ∃ o2, (if cl = 2 then some (⟨b, o, none⟩ : Addr) else some ⟨b, o + 4, none⟩) = some ⟨b, o2, none⟩ ∧ Hid (SR GK wr (some ⟨b, o2, none⟩) (G.drop 2)) := by
        by_cases e : cl = 2
        · refine ⟨o, if_pos e, ?_⟩
          rw [show G.drop 2 = [] from List.drop_eq_nil_of_le (by omega)]
          exact SR.nil _ _
        · exact ⟨o + 4, if_neg e, SR.dropS GK_ok HL.out 2 (by omega)⟩
      have HT : Hid (SR GK wr (some ⟨b, o, none⟩) (G.take 1)) := SR.takeS HL.out 1
      clear L5 E5 h1
      go_wp2_with fail
      refine wp_region_any (by kernel_rfl) ?_
      try (change wpAny _ _ _ _ _ _ _ (World.drew _))
      refine wpAny_take (i := 1) (v := ?_) rfl (by kernel_rfl) (by kernel_rfl) (by kernel_rfl) (fun _ _ _ h => h) (Or.inl ⟨by rfl, ?_⟩) ?_
      rotate_left 1
      · intro w; go_simp; (try with_reducible rfl)
      go_simp
      refine wpAny_take (i := 2) (v := .slice (some ⟨b, o, none⟩) 1 cl) rfl (by kernel_rfl) (by kernel_rfl) (by kernel_rfl) (fun _ _ _ h => h) (Or.inl ⟨by rfl, ?_⟩) ?_
      · intro w; go_simp; (try with_reducible rfl)
      go_simp
      refine wpAny_take (i := 4) (v := ?_) rfl (by kernel_rfl) (by kernel_rfl) (by kernel_rfl) (fun _ _ _ h => h) (Or.inl ⟨by rfl, ?_⟩) ?_
      rotate_left 1
      · intro w; go_simp; (try with_reducible rfl)
      go_simp
      refine wpAny_take (i := 5) (v := .slice (some ⟨b, o2, none⟩) (G.length - 2) (cl - 2)) rfl (by kernel_rfl) (by kernel_rfl) (by kernel_rfl) (fun _ _ _ h => h) (Or.inl ⟨by rfl, ?_⟩) ?_
      · intro w; go_simp; (try rw [hif])
      go_simp
      refine wpAny_ready (rs := [0]) (by kernel_rfl) (by simp) ?_
      refine AllReady.cons rfl (fun K hK => ?_) AllReady.nil
      go_simp
      refine hK _ _ ?_
      clear hK K
      have RS0 : RS GK wr (wr.alloc (.cells #[] 53)).drew wr.heap.size (some ⟨wr.heap.size, 0, none⟩) 0 [] := (RS.new wr wr wr.heap.size (Nat.le_refl _)).ext ((Ext.refl _).drew)
      have E0 : Ext wr (wr.alloc (.cells #[] 53)).drew := ((Ext.refl wr).alloc _).drew
      obtain ⟨i, hi, hz0, hz1, hz2⟩ := info_parts infoGn
      obtain ⟨T1, hT1⟩ : ∃ T1 : List Gn, Hid (T1 = G.take 1) := ⟨_, rfl⟩
      obtain ⟨T2, hT2⟩ : ∃ T2 : List Gn, Hid (T2 = T1 ++ G.drop 2) := ⟨_, rfl⟩
      have hl1 : T1.length = 1 := by rw [hT1.out, List.length_take]; omega
      have hl2 : T2.length = G.length - 1 := by rw [hT2.out, List.length_append, hl1, List.length_drop]; omega
      have HTG : Hid (T2 = G.take 1 ++ G.drop 2) := by rw [hT2.out, hT1.out]; exact Lib.hid rfl
      refine wpAny_ready (rs := [3]) (by kernel_rfl) (by simp) ?_
      refine AllReady.cons rfl (fun K hK => ?_) AllReady.nil
      refine step_of rfl ?_
      refine oper_appRead GK_ok 23 i (.agg #[.int .i64 0, .slice none 0 0]) 32 _ wr _ _ rfl Try.underlying23 hi hz0 hz1 hz2 rfl (by omega) wr.heap.size _ _ [] rfl RS0 E0 (Nat.le_refl _) b o 1 cl (G.take 1) rfl (by rw [List.length_take]; omega) HT.out T1 (by rw [hT1.out]; rfl) (by rw [List.length_take]; simp; omega) E0.size_le ?_
      intro a7 c7 w7 h7 e7
      refine hK _ _ ?_
      clear hK K RS0 E0
      refine wpAny_ready (rs := [6]) (by kernel_rfl) (by simp) ?_
      refine AllReady.cons rfl (fun K hK => ?_) AllReady.nil
      refine step_of rfl ?_
      refine oper_appRead GK_ok 23 i (.agg #[.int .i64 0, .slice none 0 0]) 32 _ wr _ _ rfl Try.underlying23 hi hz0 hz1 hz2 rfl (by omega) wr.heap.size _ _ T1 rfl h7 e7 (Nat.le_refl _) b o2 (G.length - 2) (cl - 2) (G.drop 2) rfl (by rw [List.length_drop]) HD.out T2 hT2.out (by rw [List.length_drop]; omega) e7.size_le ?_
      intro a8 c8 w8 h8 e8
      refine hK _ _ ?_
      clear hK K h7 e7
      have HS2 : Hid (∀ g ∈ T2, g.2.length ≤ 8 ∧ ∀ xs ∈ g.2, xs.length ≤ 16) := fun g hg => by
        rw [HTG.out] at hg
        rcases List.mem_append.1 hg with hg | hg
        · exact HS.out g (List.mem_of_mem_take hg)
        · exact HS.out g (List.mem_of_mem_drop hg)
      have hsum := sumG_small HS2.out
      have CJ := Lib.hid (implJoinGenerations_ok a8 c8 T2 w8 (h8.reads GK_ok e8) (by omega) (by omega) (fun g hg xs hx => by have := (HS2.out g hg).2 xs hx; omega))
      obtain ⟨q, hq⟩ : ∃ q, Hid (q = joinOk T2) := ⟨_, rfl⟩
      have HG : Hid (3 ≤ G.length → q = false) := fun h => by rw [hq.out, HTG.out]; exact HM2.out.gap h
      obtain ⟨y, hy⟩ : ∃ y, Hid (y = joinD T2) := ⟨_, rfl⟩
      rw [← hq.out, ← hy.out] at CJ
      clear hsum hq hy HS2 HTG hT1 hT2 hl1 hl2
      refine wpAny_ready (rs := [7]) (by kernel_rfl) (by simp) ?_
      refine AllReady.cons rfl (fun K hK => ?_) AllReady.nil
      go_simp
      go_at_call 56
      (with_reducible refine CJ.out.mono ?_)
      rintro e w9 ⟨a9, c9, rfl, o9, e9⟩
      have E9 := HE.out.trans (e8.trans e9)
      refine hK _ _ ?_
      clear hK K CJ o9 e8 e9 h8
      refine wpAny_take (i := 8) (v := ?_) rfl (by kernel_rfl) (by kernel_rfl) (by kernel_rfl) (fun _ _ _ h => h) (Or.inl ⟨by rfl, ?_⟩) ?_
      rotate_left 1
      · intro w; go_simp; (try with_reducible rfl)
      go_simp
      refine wpAny_take (i := 9) (v := ?_) rfl (by kernel_rfl) (by kernel_rfl) (by kernel_rfl) (fun _ _ _ h => h) (Or.inl ⟨by rfl, ?_⟩) ?_
      rotate_left 1
      · intro w; go_simp; (try with_reducible rfl)
      go_simp
      refine wpAny_take (i := 10) (v := ?_) rfl (by kernel_rfl) (by kernel_rfl) (by kernel_rfl) (fun _ _ _ h => h) (Or.inl ⟨by rfl, ?_⟩) ?_
      rotate_left 1
      · intro w; go_simp; (try with_reducible rfl)
      go_simp
      refine wpAny_take (i := 11) (v := ?_) rfl (by kernel_rfl) (by kernel_rfl) (by kernel_rfl) (fun _ _ _ h => h) (Or.inl ⟨by rfl, ?_⟩) ?_
      rotate_left 1
      · intro w; go_simp; (try with_reducible rfl)
      go_simp
      refine wpAny_take (i := 12) (v := ?_) rfl (by kernel_rfl) (by kernel_rfl) (by kernel_rfl) (fun _ _ _ h => h) (Or.inl ⟨by rfl, ?_⟩) ?_
      rotate_left 1
      · intro w; go_simp; (try with_reducible rfl)
      go_simp
      refine wpAny_done (by kernel_rfl) ?_ _
      cases q
      · go_wp2_with fail
        go_ret
        exact ⟨rfl, E9⟩
      · have hg2 : G.length = 2 := by
          by_cases h3 : 3 ≤ G.length
          · have := HG.out h3
            cases this
          · omega
        have P := HM2.out.two hg2
        have hp0 : 0 ≤ 2 * m * s := Int.mul_nonneg (by omega) hs0
        have hp1 : 2 * m * s ≤ 34 * 9 := Int.mul_le_mul (by omega) hs1 hs0 (by omega)
        have t5 : ((G.length : Int) == 2) = true := by rw [hg2]; rfl
        clear HG HM2 HS HT HD hif hc1 hc2 hg2
        go_wp2_with fail
        go_ret
        exact ⟨rfl, E9⟩

end Go.Proofs.Ytkegknophppdgaa
