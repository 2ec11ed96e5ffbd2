/- Contracts of SplitMessage. -/
import Derived.Test.YtkegknophppdgaaGnl
import Derived.Test.YtkegknophppdgaaSym2
import Derived.Test.YtkegknophppdgaaLawSym
import Derived.Test.YtkegknophppdgaaFld
import Derived.Deep.RegionLaw
namespace Go.Proofs.Ytkegknophppdgaa
open Go.RowKit
set_option linter.unusedVariables false
set_option maxRecDepth 20000

/-- The first j generations of symbols l, s a generation. -/
def splTo (l : List (List Int)) (s : Nat) (f : Int) (j : Nat) : List Gn := (List.range j).map fun (t : Nat) => (f + (t : Int), (l.drop (t * s)).take s)
theorem splTo_length (l : List (List Int)) (s : Nat) (f : Int) (j : Nat) : (splTo l s f j).length = j := by simp [splTo]
theorem splTo_succ (l : List (List Int)) (s : Nat) (f : Int) (j : Nat) : splTo l s f (j + 1) = splTo l s f j ++ [(f + (j : Int), (l.drop (j * s)).take s)] := by simp [splTo, List.range_succ]
def splG (ds : List Int) (m s f : Int) : List Gn := if inR s 1 8 && inR f 0 999999999590 then splTo (syms ds m) s.toNat f (symN s.toNat (syms ds m).length) else []

theorem MatR.dropS {w : World} {b o : Nat} {xss : List (List Int)} (h : MatR w (some ⟨b, o, none⟩) xss) (j : Nat) : MatR w (some ⟨b, o + j, none⟩) (xss.drop j) := by
  obtain ⟨rs, h⟩ := h
  refine ⟨rs.drop j, by simp [h.len], fun i hi => ?_, fun i r xs hr hx => ?_⟩
  · have hl : (RV rs xss).length = xss.length := RV_length h.len
    have e : RV (rs.drop j) (xss.drop j) = (RV rs xss).drop j := by unfold RV; rw [List.drop_zipWith]
    rw [e] at hi
    simp at hi
    obtain ⟨b', o', hab, hc⟩ := h.top (j + i) (by omega)
    injection hab with hab
    obtain ⟨rfl, rfl⟩ : b = b' ∧ o = o' := by simpa using hab
    refine ⟨b, o + j, rfl, ?_⟩
    rw [Nat.add_assoc, hc]
    congr 1
    have : (RV (rs.drop j) (xss.drop j))[i]? = (RV rs xss)[j + i]? := by rw [e, List.getElem?_drop]
    rw [List.getElem?_eq_getElem (by rw [e]; simp; omega), List.getElem?_eq_getElem (by omega)] at this
    injection this with this
    exact this.symm
  · rw [List.getElem?_drop] at hr hx
    exact h.row (j + i) r xs hr hx
theorem MatR.takeS {w : World} {a : Option Addr} {xss : List (List Int)} (h : MatR w a xss) (j : Nat) : MatR w a (xss.take j) := by
  obtain ⟨rs, h⟩ := h
  have hl : (RV rs xss).length = xss.length := RV_length h.len
  have e : RV (rs.take j) (xss.take j) = (RV rs xss).take j := by unfold RV; rw [List.take_zipWith]
  refine ⟨rs.take j, by simp [h.len], fun i hi => ?_, fun i r xs hr hx => ?_⟩
  · rw [e] at hi
    simp at hi
    obtain ⟨b', o', hab, hc⟩ := h.top i (by omega)
    refine ⟨b', o', hab, ?_⟩
    rw [hc]
    congr 1
    have : (RV (rs.take j) (xss.take j))[i]? = (RV rs xss)[i]? := by rw [e, List.getElem?_take, if_pos (by omega)]
    rw [List.getElem?_eq_getElem (by rw [e]; simp; omega), List.getElem?_eq_getElem (by omega)] at this
    injection this with this
    exact this.symm
  · rw [List.getElem?_take] at hr hx
    split at hr
    · rename_i hi
      rw [if_pos hi] at hx
      exact h.row i r xs hr hx
    · cases hr

set_option maxHeartbeats 8000000 in
set_option maxRecDepth 100000 in
theorem implSplitMessage_ok (a : Option Addr) (c : Nat) (ds : List Int) (m s f : Int) (w : World) (h : Vals w a (Y ds)) (hl : ds.length ≤ 1048576) (hb : AllB ds) :
    Calls Try.prog 17 #[.slice a ds.length c, .int .i64 m, .int .i64 s, .int .i64 f] w (NewGs w (splG ds m s f)) := by
  have CB := Lib.hid (implBytesToSymbols_ok a c ds m w h hl hb)
  obtain ⟨l, hll⟩ : ∃ l, Hid (l = syms ds m) := ⟨_, rfl⟩
  rw [← hll.out] at CB
  have QR : Hid (∀ (n lo hi : Int) (W : World), Calls Try.prog 96 #[.int .i64 n, .int .i64 lo, .int .i64 hi] W fun e w' => e = .returned (.bool (inR n lo hi)) ∧ W = w') := fun n lo hi W => implInRange_ok n lo hi W
  clear h
  go_enter Try.func17, Try.ntmps17
  go_wp2_with fail
  (with_reducible refine CB.out.mono ?_)
  rintro e w1 ⟨a2, c2, rfl, o2, e2⟩
  clear CB
  cases q1 : inR s 1 8
  · have HS : Hid (splG ds m s f = []) := by unfold splG; rw [q1]; rfl
    go_wp2_with (go_at_call 96; (with_reducible refine (QR.out _ _ _ _).mono ?_); rintro e w' ⟨rfl, rfl⟩; rw [q1])
    go_ret
    rw [HS.out]
    exact ⟨none, 0, rfl, OS.nil _ _ _, e2⟩
  cases q2 : inR f 0 999999999590
  · have HS : Hid (splG ds m s f = []) := by unfold splG; rw [q1, q2]; rfl
    go_wp2_with (first
      | (go_at_call 96; (with_reducible refine (QR.out s _ _ _).mono ?_); rintro e w' ⟨rfl, rfl⟩; rw [q1])
      | (go_at_call 96; (with_reducible refine (QR.out f _ _ _).mono ?_); rintro e w' ⟨rfl, rfl⟩; rw [q2]))
    go_ret
    rw [HS.out]
    exact ⟨none, 0, rfl, OS.nil _ _ _, e2⟩
  obtain ⟨s0, s1⟩ := inR_true.1 q1
  obtain ⟨f0, f1⟩ := inR_true.1 q2
  obtain ⟨S, rfl⟩ := Int.eq_ofNat_of_zero_le (show 0 ≤ s by omega)
  have hS1 : 1 ≤ S := by omega
  have hS8 : S ≤ 8 := by omega
  have hl407 : l.length ≤ 407 := by rw [hll.out]; exact syms_len ds m
  have HV : Hid (splG ds m S f = splTo l S f (symN S l.length)) := by unfold splG; rw [q1, q2, ← hll.out]; exact Lib.hid rfl
  have HLR : Hid (∀ xs ∈ l, xs.length ≤ 1048576) := fun xs hx => by
    rw [hll.out] at hx
    obtain ⟨g1, _, g3⟩ := syms_rows hx
    have := (inR_true.1 g1).2
    omega
  have hcap := o2.cap
  have HM := Lib.hid o2.reads
  have hzw := e2.size_le
  clear hll
  go_wp2_with (first
    | (go_at_call 96; (with_reducible refine (QR.out S _ _ _).mono ?_); rintro e w' ⟨rfl, rfl⟩; rw [q1])
    | (go_at_call 96; (with_reducible refine (QR.out f _ _ _).mono ?_); rintro e w' ⟨rfl, rfl⟩; rw [q2]))
  clear q1 q2 s0 s1
  obtain ⟨i, hi, hz0, hz1, hz2⟩ := info_parts infoGn
  go_loopw [10, 11] (fun v i wr => ∃ (j T : Nat) (a1 : Option Addr) (c1 : Nat) (gs : List Gn), Hid (T = j * S) ∧ T < l.length + S ∧ j ≤ T ∧ i = .int .i64 T ∧ v = .slice a1 gs.length c1 ∧ Hid (gs = splTo l S f j) ∧ OGs wr w1.heap.size wr.heap.size a1 c1 gs ∧ Ext w1 wr) (fun _ i _ => l.length + S - (intOf i).toNat)
  case atStart => exact ⟨0, 0, none, 0, [], by simp [Hid], by omega, Nat.le_refl _, rfl, rfl, by simp [Hid, splTo], OS.nil _ _ _, Ext.refl _⟩
  case round =>
    obtain ⟨j, T, a1, c1, gs, HT, hTS, hjT, rfl, rfl, HG, ho, he⟩ := hrel
    have HGL : Hid (gs.length = j) := by rw [HG.out]; exact splTo_length _ _ _ _
    by_cases hlt : T < l.length
    · have i1 : (T : Int) < (l.length : Int) := by omega
      have hg407 : gs.length ≤ 407 := by rw [HGL.out]; omega
      obtain ⟨gb, rfl, gb0, gb1, gb2⟩ := o2.form (by omega)
      obtain ⟨ys, hys⟩ : ∃ ys, Hid (ys = (l.drop T).take S) := ⟨_, rfl⟩
      have hyl : Hid (ys.length = min S (l.length - T)) := by rw [hys.out, List.length_take, List.length_drop]; exact Lib.hid rfl
      have HYR : Hid (∀ xs ∈ ys, xs.length ≤ 1048576) := fun xs hx => by
        rw [hys.out] at hx
        exact HLR.out xs (List.mem_of_mem_drop (List.mem_of_mem_take hx))
      have CC : Hid (∀ d, Calls Try.prog 97 #[.slice (some ⟨gb, T, none⟩) ys.length d] wr (NewM wr ys)) := fun d => by
        have hM := ((HM.out.dropS T).takeS S).ext he
        rw [← hys.out, Nat.zero_add] at hM
        exact implCopy_ok _ d ys wr hM (by rw [hyl.out]; omega) HYR.out
      obtain ⟨zss, hzs⟩ : ∃ zss, Hid (zss = gs ++ [(f + (gs.length : Int), ys)]) := ⟨_, rfl⟩
      have HG2 : Hid (zss = splTo l S f (j + 1)) := by rw [hzs.out, splTo_succ, HGL.out, ← HG.out, hys.out, HT.out]; exact Lib.hid rfl
      have HT2 : Hid (T + S = (j + 1) * S) := by rw [HT.out, Nat.add_mul, Nat.one_mul]; exact Lib.hid rfl
      have hz1r := he.size_le
      have FIN : Hid (∀ w3 a3 c3, OM w3 wr.heap.size w3.heap.size a3 c3 ys → Ext wr w3 → OS GK (w3.alloc (.cells #[.int .i64 (f + (gs.length : Int)), .slice a3 ys.length c3] 53)) w1.heap.size wr.heap.size a1 c1 gs.length gs ∧ GK.own (w3.alloc (.cells #[.int .i64 (f + (gs.length : Int)), .slice a3 ys.length c3] 53)) wr.heap.size w3.heap.size (a3, c3) (f + (gs.length : Int), ys) ∧
          Vals (w3.alloc (.cells #[.int .i64 (f + (gs.length : Int)), .slice a3 ys.length c3] 53)) (some ⟨w3.heap.size, 0, none⟩) (GK.cells (a3, c3) (f + (gs.length : Int), ys)) ∧ Ext w1 (w3.alloc (.cells #[.int .i64 (f + (gs.length : Int)), .slice a3 ys.length c3] 53))) := fun w3 a3 c3 h1 h2 =>
        ⟨(OGs.ext ho h2).ext ((Ext.refl w3).alloc _), OM.ext h1 ((Ext.refl w3).alloc _), Vals.new w3 _ _, (he.trans h2).alloc _⟩
      have hob : Hid (∀ k, blockOf a1 = some k → w1.heap.size ≤ k) := fun k hk => by
        obtain ⟨hs, rg, g1, g2, g3, g4, _⟩ := ho
        exact (ownsRow_blockS g4 k hk).1
      clear ho he gb0 gb1 gb2 hb hl HGL HG
      by_cases hful : T + S ≤ l.length
      · have hful' : (T : Int) + (S : Int) ≤ (l.length : Int) := by omega
        have hA : ((T : Int) + (S : Int)).toNat - T = ys.length := by rw [hyl.out]; omega
        have hyl8 : ys.length ≤ 8 := by rw [hyl.out]; omega
        go_wp2_with fail
        clear hA
        (with_reducible refine (CC.out _).mono ?_)
        rintro e w3 ⟨a3, c3, rfl, o3, e3⟩
        obtain ⟨O5, R5, V5, E5⟩ := FIN.out w3 a3 c3 o3 e3
        have hz3 := e3.size_le
        clear o3 e3 CC
        go_wp2_with (at_builtin; refine wpList_appS GK_ok 23 i (.agg #[.int .i64 0, .slice none 0 0]) 32 _ rfl _ _ rfl Try.underlying23 hi hz0 hz1 hz2 rfl (by omega) w1.heap.size wr.heap.size _ _ gs rfl O5 _ _ (a3, c3) (f + (gs.length : Int), ys) rfl V5 wr.heap.size w3.heap.size R5 (Nat.le_refl _) hz3 (by simp) hz1r zss hzs.out (by omega) ?_)
        intro a7 c7 w7 o7 g7 _
        have E7 := E5.grown g7 (fun k hk => hob.out k hk)
        clear g7 O5 R5 V5 E5 FIN hob
        go_wp2_with fail
        go_roundw
        case rel => exact ⟨j + 1, T + S, a7, c7, zss, HT2, by omega, by omega, by go_num, rfl, HG2, o7, E7⟩
        case measure => simp [intOf]; omega
      · have hful' : ¬ (T : Int) + (S : Int) ≤ (l.length : Int) := by omega
        have hA : l.length - T = ys.length := by rw [hyl.out]; omega
        have hyl8 : ys.length ≤ 8 := by rw [hyl.out]; omega
        go_wp2_with fail
        clear hA
        (with_reducible refine (CC.out _).mono ?_)
        rintro e w3 ⟨a3, c3, rfl, o3, e3⟩
        obtain ⟨O5, R5, V5, E5⟩ := FIN.out w3 a3 c3 o3 e3
        have hz3 := e3.size_le
        clear o3 e3 CC
        go_wp2_with (at_builtin; refine wpList_appS GK_ok 23 i (.agg #[.int .i64 0, .slice none 0 0]) 32 _ rfl _ _ rfl Try.underlying23 hi hz0 hz1 hz2 rfl (by omega) w1.heap.size wr.heap.size _ _ gs rfl O5 _ _ (a3, c3) (f + (gs.length : Int), ys) rfl V5 wr.heap.size w3.heap.size R5 (Nat.le_refl _) hz3 (by simp) hz1r zss hzs.out (by omega) ?_)
        intro a7 c7 w7 o7 g7 _
        have E7 := E5.grown g7 (fun k hk => hob.out k hk)
        clear g7 O5 R5 V5 E5 FIN hob
        go_wp2_with fail
        go_roundw
        case rel => exact ⟨j + 1, T + S, a7, c7, zss, HT2, by omega, by omega, by go_num, rfl, HG2, o7, E7⟩
        case measure => simp [intOf]; omega
    · have hN : j = symN S l.length := symN_eq HT.out (by omega) hTS (by omega)
      go_wp2_with fail
      go_ret
      rw [HV.out, ← hN, ← HG.out]
      exact ⟨a1, c1, rfl, ho.mono hzw (Nat.le_refl _), e2.trans he⟩

theorem specMinS_ok (x y : Int) (w : World) : Calls Try.prog 89 #[.int .i64 x, .int .i64 y] w fun e w' => e = .returned (.int .i64 (if y < x then y else x)) ∧ w = w' := by
  by_cases h : y < x
  · have HE : Hid ((if y < x then y else x) = y) := by rw [if_pos h]; exact Lib.hid rfl
    rw [HE.out]
    go_enter Try.func89, Try.ntmps89
    go_wp2
    go_ret
    exact ⟨rfl, rfl⟩
  · have HE : Hid ((if y < x then y else x) = x) := by rw [if_neg h]; exact Lib.hid rfl
    rw [HE.out]
    go_enter Try.func89, Try.ntmps89
    go_wp2
    go_ret
    exact ⟨rfl, rfl⟩

set_option maxHeartbeats 8000000 in
set_option maxRecDepth 100000 in
theorem specSplitMessage_ok (a : Option Addr) (c : Nat) (ds : List Int) (m s f : Int) (w : World) (h : Vals w a (Y ds)) (hl : ds.length ≤ 1048576) (hb : AllB ds) :
    Calls Try.prog 15 #[.slice a ds.length c, .int .i64 m, .int .i64 s, .int .i64 f] w (NewGs w (splG ds m s f)) := by
  have x0 := (Ext.refl w).alloc (.cells #[] 53)
  have o0 : OGs _ _ _ _ _ [] := OS.new0 (K := GK) w
  have CB := Lib.hid (specBytesToSymbols_ok a c ds m _ (h.ext x0) hl hb)
  obtain ⟨l, hll⟩ : ∃ l, Hid (l = syms ds m) := ⟨_, rfl⟩
  rw [← hll.out] at CB
  have QR : Hid (∀ (n lo hi : Int) (W : World), Calls Try.prog 94 #[.int .i64 n, .int .i64 lo, .int .i64 hi] W fun e w' => e = .returned (.bool (inR n lo hi)) ∧ W = w') := fun n lo hi W => specInRange_ok n lo hi W
  clear h
  go_enter Try.func15, Try.ntmps15
  go_wp2_with fail
  (with_reducible refine CB.out.mono ?_)
  rintro e w1 ⟨a2, c2, rfl, o2, e2⟩
  have E1 := x0.trans e2
  have o1 := OGs.ext o0 e2
  have hzw := e2.size_le
  clear CB x0 o0 e2
  cases q1 : inR s 1 8
  · have HS : Hid (splG ds m s f = []) := by unfold splG; rw [q1]; rfl
    go_wp2_with (go_at_call 94; (with_reducible refine (QR.out _ _ _ _).mono ?_); rintro e w' ⟨rfl, rfl⟩; rw [q1])
    go_ret
    rw [HS.out]
    exact ⟨_, 0, rfl, o1.mono (Nat.le_refl _) hzw, E1⟩
  cases q2 : inR f 0 999999999590
  · have HS : Hid (splG ds m s f = []) := by unfold splG; rw [q1, q2]; rfl
    go_wp2_with (first
      | (go_at_call 94; (with_reducible refine (QR.out s _ _ _).mono ?_); rintro e w' ⟨rfl, rfl⟩; rw [q1])
      | (go_at_call 94; (with_reducible refine (QR.out f _ _ _).mono ?_); rintro e w' ⟨rfl, rfl⟩; rw [q2]))
    go_ret
    rw [HS.out]
    exact ⟨_, 0, rfl, o1.mono (Nat.le_refl _) hzw, E1⟩
  obtain ⟨s0, s1⟩ := inR_true.1 q1
  obtain ⟨f0, f1⟩ := inR_true.1 q2
  obtain ⟨S, rfl⟩ := Int.eq_ofNat_of_zero_le (show 0 ≤ s by omega)
  have hS1 : 1 ≤ S := by omega
  have hS8 : S ≤ 8 := by omega
  have hl407 : l.length ≤ 407 := by rw [hll.out]; exact syms_len ds m
  have HV : Hid (splG ds m S f = splTo l S f (symN S l.length)) := by unfold splG; rw [q1, q2, ← hll.out]; exact Lib.hid rfl
  have HLR : Hid (∀ xs ∈ l, xs.length ≤ 1048576) := fun xs hx => by
    rw [hll.out] at hx
    obtain ⟨g1, _, g3⟩ := syms_rows hx
    have := (inR_true.1 g1).2
    omega
  have hcap := o2.cap
  clear hll
  go_wp2_with (first
    | (go_at_call 94; (with_reducible refine (QR.out S _ _ _).mono ?_); rintro e w' ⟨rfl, rfl⟩; rw [q1])
    | (go_at_call 94; (with_reducible refine (QR.out f _ _ _).mono ?_); rintro e w' ⟨rfl, rfl⟩; rw [q2]))
  clear q1 q2 s0 s1
  obtain ⟨i, hi, hz0, hz1, hz2⟩ := info_parts infoGn
  have o1m := Lib.hid (o1.mono (Nat.le_refl _) hzw)
  have O2 := Lib.hid (o2.mono (C := w.heap.size + 1) (C2 := w1.heap.size) (by simp) (Nat.le_refl _))
  go_loopw [9, 11] (fun v i wr => ∃ (j T : Nat) (a1 : Option Addr) (c1 : Nat) (gs : List Gn), Hid (T = j * S) ∧ T < l.length + S ∧ j ≤ T ∧ i = .int .i64 T ∧ v = .slice a1 gs.length c1 ∧ Hid (gs = splTo l S f j) ∧ OGs wr w.heap.size wr.heap.size a1 c1 gs ∧ OM wr (w.heap.size + 1) w1.heap.size a2 c2 l ∧ (∀ k, blockOf a1 = some k → k < w.heap.size + 1 ∨ w1.heap.size ≤ k) ∧ w1.heap.size ≤ wr.heap.size ∧ Ext w wr) (fun _ i _ => l.length + S - (intOf i).toNat)
  case atStart => exact ⟨0, 0, _, 0, [], by simp [Hid], by omega, Nat.le_refl _, rfl, rfl, by simp [Hid, splTo], o1m.out, O2.out, fun k hk => by simp [blockOf] at hk; omega, Nat.le_refl _, E1⟩
  case round =>
    clear o1 o1m O2 o2
    obtain ⟨j, T, a1, c1, gs, HT, hTS, hjT, rfl, rfl, HG, ho, o2, hbk, hz1r, he⟩ := hrel
    have HGL : Hid (gs.length = j) := by rw [HG.out]; exact splTo_length _ _ _ _
    by_cases hlt : T < l.length
    · have i1 : (T : Int) < (l.length : Int) := by omega
      have hg407 : gs.length ≤ 407 := by rw [HGL.out]; omega
      obtain ⟨gb, rfl, gb0, gb1, gb2⟩ := o2.form (by omega)
      obtain ⟨ys, hys⟩ : ∃ ys, Hid (ys = (l.drop T).take S) := ⟨_, rfl⟩
      have hyl : Hid (ys.length = min S (l.length - T)) := by rw [hys.out, List.length_take, List.length_drop]; exact Lib.hid rfl
      have HYR : Hid (∀ xs ∈ ys, xs.length ≤ 1048576) := fun xs hx => by
        rw [hys.out] at hx
        exact HLR.out xs (List.mem_of_mem_drop (List.mem_of_mem_take hx))
      have D0 : Ext wr wr.drew := (Ext.refl _).drew
      have CC : Hid (∀ d W, Ext wr W → Calls Try.prog 95 #[.slice (some ⟨gb, T, none⟩) ys.length d] W (NewM W ys)) := fun d W hW => by
        have hM := ((o2.reads.dropS T).takeS S).ext hW
        rw [← hys.out, Nat.zero_add] at hM
        exact specCopy_ok _ d ys W hM (by rw [hyl.out]; omega) HYR.out
      obtain ⟨zss, hzs⟩ : ∃ zss, Hid (zss = gs ++ [(f + (gs.length : Int), ys)]) := ⟨_, rfl⟩
      have HG2 : Hid (zss = splTo l S f (j + 1)) := by rw [hzs.out, splTo_succ, HGL.out, ← HG.out, hys.out, HT.out]; exact Lib.hid rfl
      have HT2 : Hid (T + S = (j + 1) * S) := by rw [HT.out, Nat.add_mul, Nat.one_mul]; exact Lib.hid rfl
      have hzww := E1.size_le
      have FIN : Hid (∀ w3 a3 c3, OM w3 wr.drew.heap.size w3.heap.size a3 c3 ys → Ext wr.drew w3 → OS GK (w3.alloc (.cells #[.int .i64 (f + (gs.length : Int)), .slice a3 ys.length c3] 53)) w.heap.size wr.heap.size a1 c1 gs.length gs ∧ GK.own (w3.alloc (.cells #[.int .i64 (f + (gs.length : Int)), .slice a3 ys.length c3] 53)) wr.drew.heap.size w3.heap.size (a3, c3) (f + (gs.length : Int), ys) ∧
          Vals (w3.alloc (.cells #[.int .i64 (f + (gs.length : Int)), .slice a3 ys.length c3] 53)) (some ⟨w3.heap.size, 0, none⟩) (GK.cells (a3, c3) (f + (gs.length : Int), ys)) ∧ Ext w (w3.alloc (.cells #[.int .i64 (f + (gs.length : Int)), .slice a3 ys.length c3] 53)) ∧ wr.drew.heap.size ≤ w3.heap.size ∧ OM (w3.alloc (.cells #[.int .i64 (f + (gs.length : Int)), .slice a3 ys.length c3] 53)) (w.heap.size + 1) w1.heap.size (some ⟨gb, 0, none⟩) c2 l) := fun w3 a3 c3 h1 h2 =>
        ⟨(OGs.ext ho (D0.trans h2)).ext ((Ext.refl w3).alloc _), OM.ext h1 ((Ext.refl w3).alloc _), Vals.new w3 _ _, ((he.trans D0).trans h2).alloc _, h2.size_le, (((o2.ext D0).ext h2).ext ((Ext.refl w3).alloc _))⟩
      have hq1 : (T : Int) / (S : Int) = (gs.length : Int) := by
        rw [HT.out, HGL.out]
        push_cast
        exact Int.mul_ediv_cancel _ (by omega)
      have hq2 : (T : Int).tdiv (S : Int) = (gs.length : Int) := by
        rw [Int.tdiv_eq_ediv_of_nonneg (by omega)]; exact hq1
      have hSn : ¬ S = 0 := by omega
      have k1 : IntKind.i64.wrap (gs.length : Int) = (gs.length : Int) := by rw [IntKind.wrap_i64]; omega
      have k2 : IntKind.i64.wrap ((T : Int) + (S : Int)) = (T : Int) + (S : Int) := by rw [IntKind.wrap_i64]; omega
      have k3 : IntKind.i64.wrap (f + (gs.length : Int)) = f + (gs.length : Int) := by rw [IntKind.wrap_i64]; omega
      have hmin : (if (T : Int) + (S : Int) < (l.length : Int) then (T : Int) + (S : Int) else (l.length : Int)) = ((T + ys.length : Nat) : Int) := by
        have := hyl.out
        split <;> omega
      have hyT : T + ys.length ≤ l.length := by have := hyl.out; omega
      have hyT2 : T + ys.length ≤ c2 := by omega
      have HMN : Hid (∀ W, Calls Try.prog 89 #[.int .i64 l.length, .int .i64 ((T : Int) + (S : Int))] W fun e w' => e = .returned (.int .i64 ((T + ys.length : Nat) : Int)) ∧ W = w') := fun W => by
        have := specMinS_ok l.length ((T : Int) + (S : Int)) W
        rwa [hmin] at this
      have hyl8 : ys.length ≤ 8 := by have := hyl.out; omega
      have g1 : (0 : Int) ≤ (T : Int) + (ys.length : Int) := by omega
      have g2 : (T : Int) + (ys.length : Int) ≤ (c2 : Int) := by omega
      have g3 : T ≤ ((T : Int) + (ys.length : Int)).toNat := by omega
      have g4 : ((T : Int) + (ys.length : Int)).toNat - T = ys.length := by omega
      have g5 : ¬ c2 = T := by omega
      have HBK := Lib.hid hbk
      have hob : Hid (∀ k, blockOf a1 = some k → w.heap.size ≤ k) := fun k hk => by
        obtain ⟨hs, rg, g1, g2, g3, g4, _⟩ := ho
        exact (ownsRow_blockS g4 k hk).1
      clear ho he gb0 gb1 gb2 hb hl hmin HG HT HGL hbk o2
      go_wp2_with fail
      go_region_law (first
        | (go_simp; go_at_call 89; (with_reducible refine (HMN.out _).mono ?_); rintro e w' ⟨rfl, rfl⟩; go_wp2_with fail)
        | (go_simp; go_at_call 95; (with_reducible refine (CC.out _ _ D0).mono ?_); rintro e w3 ⟨a3, c3, rfl, o3, e3⟩; obtain ⟨O5, R5, V5, E5, hz3, L5⟩ := FIN.out w3 a3 c3 o3 e3; go_wp2_with fail)
        | (refine step_appS GK_ok 23 i (.agg #[.int .i64 0, .slice none 0 0]) 32 _ (by rfl) _ _ (by rfl) Try.underlying23 hi hz0 hz1 hz2 rfl (by omega) w.heap.size wr.heap.size _ _ gs (by rfl) O5 _ _ (a3, c3) (f + (gs.length : Int), ys) (by rfl) V5 wr.drew.heap.size w3.heap.size R5 (Nat.le_refl _) hz3 (by simp) (Nat.le_trans hzww hz1r) zss hzs.out (by omega) ?_; intro a7 c7 w7 o7 g7 b7))
      all_goals (
        have hsz7 := g7.size
        simp at hsz7
        have hzd : wr.drew.heap.size = wr.heap.size := rfl
        have E7 := E5.grown g7 (fun k hk => hob.out k hk)
        have L7 := L5.grownBy g7 (fun k hk => HBK.out k hk)
        have B7 : Hid (∀ k, blockOf a7 = some k → k < w.heap.size + 1 ∨ w1.heap.size ≤ k) := fun k hk => by
          rcases b7 with b7 | b7
          · exact HBK.out k (by rw [← b7]; exact hk)
          · rw [hk] at b7
            injection b7 with b7
            refine .inr ?_
            rw [b7]
            simp
            omega
        have hz7 : w1.heap.size ≤ w7.heap.size := by omega
        clear g7 b7 O5 R5 V5 E5 L5 FIN hob o3 e3 CC HMN hq1 hq2
        go_wp2_with fail
        go_roundw
        case rel => exact ⟨j + 1, T + S, a7, c7, zss, HT2, by omega, by omega, by go_num, rfl, HG2, o7, L7, B7.out, hz7, E7⟩
        case measure => simp [intOf]; omega)
    · have hN : j = symN S l.length := symN_eq HT.out (by omega) hTS (by omega)
      go_wp2_with fail
      go_ret
      rw [HV.out, ← hN, ← HG.out]
      exact ⟨a1, c1, rfl, ho, he⟩

end Go.Proofs.Ytkegknophppdgaa
