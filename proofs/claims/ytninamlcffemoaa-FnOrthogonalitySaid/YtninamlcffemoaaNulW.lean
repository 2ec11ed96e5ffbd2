/- Contracts of UnitVector, nullSpace, NullSpace of the program. -/
import Derived.Test.YtninamlcffemoaaBas3
import Derived.Test.YtninamlcffemoaaNull
namespace Go.Proofs.Ytninamlcffemoaa
open Go.RowKit
set_option linter.unusedVariables false
set_option maxRecDepth 20000

def unitV (n k : Nat) : List Int := (List.replicate n 0).set k 1
theorem unitV_length (n k : Nat) : (unitV n k).length = n := by simp [unitV]
theorem unitV_get {n k j : Nat} (hj : j < n) : (unitV n k)[j]? = some (if j = k then 1 else 0) := by
  unfold unitV
  by_cases e : j = k
  · subst e
    rw [List.getElem?_set_self (by simpa using hj), if_pos rfl]
  · rw [List.getElem?_set_ne (fun h => e h.symm), List.getElem?_replicate, if_pos hj, if_neg e]
theorem unitV_AllEl (n k : Nat) : AllEl (unitV n k) := by
  intro x hx
  obtain ⟨j, hj⟩ := List.mem_iff_getElem?.1 hx
  have hl := (List.getElem?_eq_some_iff.1 hj).1
  rw [unitV_length] at hl
  rw [unitV_get hl] at hj
  injection hj with hj
  rw [← hj]
  split <;> rfl

set_option maxHeartbeats 1000000 in
theorem implUnitVector_ok (n k : Nat) (w : World) (hk : k < n) (hn : n ≤ 40) : Calls Try.prog 92 #[.int .i64 n, .int .i64 k] w (NewI w (unitV n k)) := by
  have r1 : inR n 0 40 = true := inR_true.2 (by omega)
  have r2 : inR k 0 ((n : Int) - 1) = true := inR_true.2 (by omega)
  have hw1 : IntKind.i64.wrap ((n : Int) - 1) = (n : Int) - 1 := by rw [IntKind.wrap_i64]; omega
  obtain ⟨i, hi, hz0, hz1, hz2⟩ := info_parts infoInt
  have i1 : (k : Int) < (n : Int) := by omega
  go_enter Try.func92, Try.ntmps92
  go_wp2_with (first
    | (go_at_call 119; (with_reducible refine (implInRange_ok _ _ _ _).mono ?_); rintro e w' ⟨rfl, rfl⟩; (first | rw [r1] | rw [r2]))
    | (at_make; refine wpList_make_full _ rfl _ _ 36 rfl w.heap.size 3 i (.int .i64 0) 1 Try.underlying36 hi hz0 hz1 _ _ _ _ n rfl rfl rfl rfl ?b1 ?b2 (Nat.le_refl _) ?_))
  case b1 => rw [hz2]; omega
  case b2 => unfold maxLen; omega
  intro w1 hown hgrow
  have q0 : OI w1 w.heap.size w1.heap.size (some ⟨w.heap.size, 0, none⟩) n (List.replicate n 0) := by
    refine OI.of ?_
    unfold OwnI
    simpa [Value.cells, toList_madeCells_one] using hown
  have e0 := (Ext.refl w).grown hgrow (by simp)
  obtain ⟨s1, s2, s3, u, s4⟩ := q0.store k 1 (by simpa using hk)
  have e1 := Span.ext e0 s2 (Nat.le_refl _)
  have s1' : OI (w1.setCell ⟨w.heap.size, k, none⟩ (.int .i64 1)) w.heap.size w1.heap.size (some ⟨w.heap.size, 0, none⟩) n (unitV n k) := s1
  clear hown hgrow q0 s2 e0 s1
  go_wp2_with fail
  go_ret
  exact ⟨_, _, by rw [unitV_length]; rfl, s1'.1, e1⟩

theorem unitV_take_yes {n k : Nat} (hk : k < n) : (unitV n k).take (k + 1) = (unitV n k).take k ++ [1] := by
  rw [List.take_add_one, unitV_get hk, if_pos rfl]; rfl
theorem unitV_take_no {n k j : Nat} (hj : j < n) (hne : j ≠ k) : (unitV n k).take (j + 1) = (unitV n k).take j ++ [0] := by
  rw [List.take_add_one, unitV_get hj, if_neg hne]; rfl

set_option maxHeartbeats 1000000 in
theorem specUnitVector_ok (n k : Nat) (w : World) (hk : k < n) (hn : n ≤ 40) : Calls Try.prog 89 #[.int .i64 n, .int .i64 k] w (NewI w (unitV n k)) := by
  have r1 : inR n 0 40 = true := inR_true.2 (by omega)
  have r2 : inR k 0 ((n : Int) - 1) = true := inR_true.2 (by omega)
  have o0 := OwnI.new w w.heap.size [] (Nat.le_refl _) (by simp)
  have e0 := (Ext.refl w).alloc (.cells (I []).toArray 3)
  go_enter Try.func89, Try.ntmps89
  go_wp2_with (go_at_call 120; (with_reducible refine (specInRange_ok _ _ _ _).mono ?_); rintro e w' ⟨rfl, rfl⟩; (first | rw [r1] | rw [r2]))
  go_loopw [5, 6] (fun v i wr => ∃ (j : Nat) (a1 : Option Addr) (c1 : Nat) (us : List Int), j ≤ n ∧ i = .int .i64 j ∧ v = .slice a1 us.length c1 ∧ Hid (us = (unitV n k).take j) ∧ OwnI wr w.heap.size a1 c1 us ∧ Ext w wr) (fun _ i _ => n - (intOf i).toNat)
  case atStart => exact ⟨0, _, _, [], Nat.zero_le _, rfl, rfl, rfl, o0, e0⟩
  case round =>
    clear o0 e0
    obtain ⟨j, a1, c1, us, hj, rfl, rfl, HU, ho, he⟩ := hrel
    have hul : us.length ≤ 40 := by rw [HU.out, List.length_take, unitV_length]; omega
    by_cases hlt : j < n
    · obtain ⟨x, hx⟩ : ∃ x : Int, Hid (x = if j = k then 1 else 0) := ⟨_, rfl⟩
      obtain ⟨vs, hvs⟩ : ∃ vs, Hid (vs = us ++ [x]) := ⟨_, rfl⟩
      have HT : Hid (vs = (unitV n k).take (j + 1)) := by rw [List.take_add_one, unitV_get hlt, ← hx.out, ← HU.out]; exact hvs
      by_cases e : j = k
      · have e' : ((j : Int) == (k : Int)) = true := by simp [e]
        obtain rfl : x = 1 := by rw [hx.out, if_pos e]
        clear e
        go_wp2_with (at_builtin; refine wpList_appI _ rfl _ _ rfl w.heap.size _ _ us rfl (ho.ext ((Ext.refl wr).alloc _)) _ _ [1] rfl (Vals.new wr [.int .i64 1] _) vs hvs.out (by simp; omega) (by have := he.size_le; simp; omega) ?_)
        intro a4 c4 w4 o4 g4 _
        have e4 := (he.alloc (.cells (I [1]).toArray 3)).grown g4 (fun k hk => (ho.block k hk).1)
        clear g4 ho he
        go_wp2_with fail
        go_roundw
        case rel => exact ⟨j + 1, a4, c4, vs, by omega, by go_num, rfl, HT, o4, e4⟩
        case measure => simp [intOf]; omega
      · have e' : ((j : Int) == (k : Int)) = false := by simp; omega
        obtain rfl : x = 0 := by rw [hx.out, if_neg e]
        clear e
        go_wp2_with (at_builtin; refine wpList_appI _ rfl _ _ rfl w.heap.size _ _ us rfl (ho.ext ((Ext.refl wr).alloc _)) _ _ [0] rfl (Vals.new wr [.int .i64 0] _) vs hvs.out (by simp; omega) (by have := he.size_le; simp; omega) ?_)
        intro a4 c4 w4 o4 g4 _
        have e4 := (he.alloc (.cells (I [0]).toArray 3)).grown g4 (fun k hk => (ho.block k hk).1)
        clear g4 ho he
        go_wp2_with fail
        go_roundw
        case rel => exact ⟨j + 1, a4, c4, vs, by omega, by go_num, rfl, HT, o4, e4⟩
        case measure => simp [intOf]; omega
    · have E : Hid (us = unitV n k) := by have := HU.out; rwa [List.take_of_length_le (by rw [unitV_length]; omega)] at this
      go_wp2_with fail
      go_ret
      rw [← E.out]
      exact ⟨a1, c1, rfl, ho, he⟩

theorem freeTo_mem {m : List (List Int)} {n k : Nat} {f : Int} (h : (freeTo m n)[k]? = some f) : ∃ q : Nat, f = q ∧ q < n ∧ isFree m q = true := by
  have := List.mem_of_getElem? h
  unfold freeTo at this
  obtain ⟨q, hq, rfl⟩ := List.mem_map.1 this
  obtain ⟨h1, h2⟩ := List.mem_filter.1 hq
  exact ⟨q, rfl, List.mem_range.1 h1, h2⟩
def nlTo (x : List (List Int)) (n k : Nat) : List (List Int) := ((freeTo x n).take k).map (fun f => nullV x n f.toNat)
theorem nlTo_succ {x : List (List Int)} {n k : Nat} {q : Nat} (h : (freeTo x n)[k]? = some (q : Int)) : nlTo x n (k + 1) = nlTo x n k ++ [nullV x n q] := by
  unfold nlTo
  rw [List.take_add_one, h, List.map_append]
  rfl
theorem nlTo_all {x : List (List Int)} {n k : Nat} (h : (freeTo x n).length ≤ k) : nlTo x n k = nullTo x n n := by
  unfold nlTo
  rw [List.take_of_length_le h, nullTo_map]
theorem nlTo_len (x : List (List Int)) (n k : Nat) : (nlTo x n k).length ≤ n := by
  unfold nlTo
  rw [List.length_map, List.length_take]
  have := freeTo_len x n
  omega

set_option maxHeartbeats 8000000 in
set_option maxRecDepth 100000 in
theorem nullSpace_ok (a : Option Addr) (c : Nat) (x : List (List Int)) (n : Nat) (w : World) (h : MatR w a x) (hR : RM n x) (hn : n ≤ 40) (hl : x.length ≤ 40) :
    Calls Try.prog 99 #[.slice a x.length c, .int .i64 n] w (NewM w (nullTo x n n)) := by
  have HR := Lib.hid hR
  have CF := Lib.hid (freeColumns_ok a c x n w h (by omega) (fun xs hx => by have := (validV_true.1 (hR.1 xs hx).1).2; omega) hR.ld_all hn)
  obtain ⟨fs, hfs⟩ : ∃ fs, Hid (fs = freeTo x n) := ⟨_, rfl⟩
  have hfl : fs.length ≤ n := by rw [hfs.out]; exact freeTo_len x n
  rw [← hfs.out] at CF
  obtain ⟨i, hi, hz0, hz1, hz2⟩ := info_parts infoInt
  clear hR
  go_enter Try.func99, Try.ntmps99
  go_wp2_with fail
  (with_reducible refine CF.out.mono ?_)
  rintro e w1 ⟨a1, c1, rfl, o1, e1⟩
  have HF1 := Lib.hid o1.vals
  have z1 := e1.size_le
  clear CF o1
  go_wp2_with fail
  go_loopw [5, 15] (fun v i wr => ∃ (k : Nat) (a2 : Option Addr) (c2 : Nat) (yss : List (List Int)), k ≤ fs.length ∧ i = .int .i64 k ∧ v = .slice a2 yss.length c2 ∧ Hid (yss = nlTo x n k) ∧ OM wr w1.heap.size wr.heap.size a2 c2 yss ∧ Ext w1 wr) (fun _ i _ => fs.length - (intOf i).toNat)
  case atStart => exact ⟨0, none, 0, [], Nat.zero_le _, rfl, rfl, rfl, OM.nil _ _ _, Ext.refl _⟩
  case round =>
    obtain ⟨k, a2, c2, yss, hk, rfl, rfl, HY, ho, he⟩ := hrel
    have hyl : yss.length ≤ 40 := by rw [HY.out]; have := nlTo_len x n k; omega
    have EW := e1.trans he
    by_cases hlt : k < fs.length
    rotate_left
    · have HN : Hid (yss = nullTo x n n) := by rw [HY.out]; exact nlTo_all (by rw [← hfs.out]; omega)
      go_wp2_with fail
      go_ret
      rw [← HN.out]
      exact ⟨a2, c2, rfl, ho.mono z1 (Nat.le_refl _), EW⟩
    obtain ⟨bf, of, f, rfl, _, hf, hcf⟩ := (HF1.out.ext he).atI hlt
    obtain ⟨q, rfl, hqn, hqf⟩ := freeTo_mem (by rw [← hfs.out]; exact hf.out)
    have HQF := Lib.hid hqf
    have HST : Hid (nlTo x n (k + 1) = yss ++ [nullV x n q]) := by rw [nlTo_succ (by rw [← hfs.out]; exact hf.out), HY.out]; exact Lib.hid rfl
    have iq : (q : Int) < (n : Int) := by omega
    have hsz := he.size_le
    have HO := Lib.hid ho
    clear hqf ho
    go_wp2_with (at_make; refine wpList_make_full _ rfl _ _ 36 rfl wr.heap.size 3 i (.int .i64 0) 1 Try.underlying36 hi hz0 hz1 _ _ _ _ n rfl rfl rfl rfl ?b1 ?b2 (Nat.le_refl _) ?_)
    case b1 => rw [hz2]; omega
    case b2 => unfold maxLen; omega
    intro w3 hown hgrow
    have q0 : OI w3 wr.heap.size w3.heap.size (some ⟨wr.heap.size, 0, none⟩) n (List.replicate n 0) := by
      refine OI.of ?_
      unfold OwnI
      simpa [Value.cells, toList_madeCells_one] using hown
    have e3 := (Ext.refl wr).grown hgrow (by simp)
    obtain ⟨s1, s2, s3, u, s4⟩ := q0.store q 1 (by simpa using hqn)
    have t1 : OI (w3.setCell ⟨wr.heap.size, q, none⟩ (.int .i64 1)) wr.heap.size w3.heap.size (some ⟨wr.heap.size, 0, none⟩) n (nvTo x n q 0) := s1
    have E3 := Span.ext e3 s2 (Nat.le_refl _)
    have z3 := e3.size_le
    clear hown hgrow q0 s2 e3 s1
    obtain ⟨wq, hwq⟩ : ∃ wq, wq = wr := ⟨_, rfl⟩
    subst hwq
    go_wp2_with fail
    go_loopw [26] (fun i wr => ∃ t : Nat, t ≤ x.length ∧ i = .int .i64 t ∧ OI wr wq.heap.size w3.heap.size (some ⟨wq.heap.size, 0, none⟩) n (nvTo x n q t) ∧ Ext wq wr ∧ w3.heap.size ≤ wr.heap.size) (fun i _ => x.length - (intOf i).toNat)
    case atStart => exact ⟨0, Nat.zero_le _, rfl, t1, E3, by simp⟩
    case round =>
      clear t1 E3
      obtain ⟨t, ht, rfl, hv, hE, hz3⟩ := hrel
      have EV := EW.trans hE
      by_cases htl : t < x.length
      · obtain ⟨b4, o4, ra, rc, xs, rfl, hb4, hx, hc, hroww⟩ := h.at_ htl
        have hxs : Hid (x.getD t [] = xs) := getD_some hx.out
        have hrk := HR.out.1.getD htl
        have hlk := HR.out.ld_lt htl
        rw [hxs.out] at hrk hlk
        obtain ⟨p, hp⟩ : ∃ p, Hid (ld xs = p) := ⟨_, rfl⟩
        rw [hp.out] at hlk
        have hxl : xs.length ≤ 40 := hrk.2.2
        have HP : Hid (leadI xs = (p : Int)) := leadI_nat hp.out (by rw [hrk.2.1]; exact hlk)
        have hqx : q < xs.length := by rw [hrk.2.1]; exact hqn
        obtain ⟨b5, o5, y, rfl, hb5, hy, hcy⟩ := hroww.atI hqx
        have hye : Hid (ent xs q = y) := ent_some hy.out
        have HYR : Hid (inR y 0 1018 = true) := by rw [← hye.out]; exact inR_true.2 (ent_range hrk.1 q)
        obtain ⟨z, hz⟩ : ∃ z, Hid (z = (0 - y) % 1019) := ⟨_, rfl⟩
        have hvl := nvTo_length x n q t
        obtain ⟨r1, r2, r3, u2, r4⟩ := hv.store p z (by rw [hvl]; exact hlk)
        have HNV : Hid (nvTo x n q (t + 1) = (nvTo x n q t).set p z) := by rw [nvTo, hxs.out, hp.out, hye.out, hz.out]; exact Lib.hid rfl
        rw [← HNV.out] at r1
        have r5 := Span.ext hE r2 (Nat.le_refl _)
        have c4 := EV.cell hc
        have c5 := EV.cell hcy
        have hne : b5 ≠ wq.heap.size := by have := EW.size_le; omega
        have HROW := Lib.hid (hroww.ext EV)
        have C1 : Hid (∀ W : World, Ext wr W → Calls Try.prog 39 #[.slice (some ⟨b5, o5, none⟩) xs.length rc] W fun e w' => e = .returned (.int .i64 (p : Int)) ∧ W = w') := fun W hW => by rw [← HP.out]; exact implLeadingIndex_ok _ _ _ _ (HROW.out.ext hW) (by omega)
        have C2 : Hid (∀ W : World, Calls Try.prog 85 #[.int .i64 0, .int .i64 y] W fun e w' => e = .returned (.int .i64 z) ∧ W = w') := fun W => by rw [hz.out]; exact implSubField_ok 0 y W rfl HYR.out
        have i1 : (0 : Int) ≤ (q : Int) := by omega
        have i2 : (q : Int) < (xs.length : Int) := by omega
        have i3 : (0 : Int) ≤ (p : Int) := by omega
        have i4 : (p : Int) < (n : Int) := by omega
        have KP : Hid (∀ u, ((wr.setCell ⟨wq.heap.size, p, none⟩ u).drew).cell? ⟨b5, o5 + q, none⟩ = some (.int .i64 y)) := fun u => (World.cell?_setCell_other wr _ _ u (fun e => hne (by injection e with e1; exact e1.symm))).trans c5
        have r1' := Lib.hid r1
        have r5' := Lib.hid r5
        have r6 := r2.size
        clear hrk hroww hv hE r1 r2 r5 EV
        go_wp2_with fail
        go_region_held3 (fun w' => w'.cell? ⟨b5, o5 + q, none⟩ = some (.int .i64 y))
          (first | exact KP.out _ | exact c5 | go_keep)
          (first
            | (go_at_call 39; (with_reducible refine (C1.out _ (Ext.refl wr).drew).mono ?_); rintro e w3' ⟨rfl, rfl⟩)
            | (go_at_call 85; (with_reducible refine (C2.out _).mono ?_); rintro e w3' ⟨rfl, rfl⟩))
        have r7 := Ext.drew r5'.out
        have r8 : OI ((wr.setCell ⟨wq.heap.size, p, none⟩ (.int .i64 z)).drew) wq.heap.size w3.heap.size (some ⟨wq.heap.size, 0, none⟩) n (nvTo x n q (t + 1)) := r1'.out.ext (Ext.refl _).drew
        clear r1' r5' C1 C2 KP
        go_wp2_with fail
        go_roundw
        case rel => exact ⟨t + 1, by omega, by go_num, r8, r7, by simp; omega⟩
        case measure => simp [intOf]; omega
      · obtain rfl : t = x.length := by omega
        rw [nvTo_all HR.out HQF.out hqn] at hv
        obtain ⟨row, hrow⟩ : ∃ row, Hid (row = nullV x n q) := ⟨_, rfl⟩
        rw [← hrow.out] at hv HST
        have hrl : Hid (row.length = n) := by rw [hrow.out]; exact nullV_length x n q
        obtain ⟨zss, hzs⟩ : ∃ zss, Hid (zss = yss ++ [row]) := ⟨_, rfl⟩
        have HZ : Hid (zss = nlTo x n (k + 1)) := by rw [hzs.out, HST.out]; exact Lib.hid rfl
        have hnew : Vals (wr.alloc (.cells #[.slice (some ⟨wq.heap.size, 0, none⟩) n n] 36)) (some ⟨wr.heap.size, 0, none⟩) [.slice (some ⟨wq.heap.size, 0, none⟩) row.length n] := by rw [hrl.out]; exact Vals.new wr [.slice (some ⟨wq.heap.size, 0, none⟩) n n] 36
        have A5 := (Ext.refl wr).alloc (.cells #[.slice (some ⟨wq.heap.size, 0, none⟩) n n] 36)
        have O5 := (HO.out.ext hE).ext A5
        have R5 := (hv.ext A5).mono (C := wq.heap.size) (C2 := (wr.alloc (.cells #[.slice (some ⟨wq.heap.size, 0, none⟩) n n] 36)).heap.size) (Nat.le_refl _) (by simp; omega)
        have E5 := (he.trans hE).alloc (.cells #[.slice (some ⟨wq.heap.size, 0, none⟩) n n] 36)
        have hob := HO.out.block
        have zr := hE.size_le
        clear hv hE A5 HO EV EW
        go_wp2_with (at_builtin; refine wpList_appM _ rfl _ _ rfl w1.heap.size wq.heap.size _ _ yss rfl O5 _ _ _ _ row rfl hnew R5 hsz (by simp; omega) zss hzs.out (by omega) ?_)
        intro a5 c5 w5 o5 g5
        have e5 := E5.grown g5 (fun k hk => (hob k hk).1)
        clear g5 E5 O5 R5 hnew hob
        go_wp2_with fail
        go_roundw
        case rel => exact ⟨k + 1, a5, c5, zss, by omega, by go_num, rfl, HZ, o5, e5⟩
        case measure => simp [intOf]; omega

/-- The null space of a matrix. -/
def nsp (m : List (List Int)) : List (List Int) := if validM m then nullTo (rowRed m) (cols m) (cols m) else []
theorem rowRed_RM {m : List (List Int)} (h : validM m = true) : RM (cols m) (rowRed m) := by
  rw [rowRed_yes h]
  have h1 := (validM_true.1 h).1
  exact (gj_red (k := cols m) (cols_le h1) h1).1

set_option maxHeartbeats 1000000 in
theorem implNullSpace_ok (a : Option Addr) (c : Nat) (m : List (List Int)) (w : World) (h : MatR w a m) (hl : m.length ≤ 1048576) (hr : ∀ xs ∈ m, xs.length ≤ 1048576) :
    Calls Try.prog 35 #[.slice a m.length c] w (NewM w (nsp m)) := by
  have Q := Lib.hid (implIsValidMatrix_ok a c m w h (by omega) (fun xs hx => Nat.le_trans (hr xs hx) (by omega)))
  have HR := Lib.hid hr
  clear hr
  cases hv : validM m
  · have HN : Hid (nsp m = []) := by unfold nsp; rw [hv]; exact Lib.hid rfl
    rw [hv] at Q
    go_enter Try.func35, Try.ntmps35
    go_wp2_with fail
    (with_reducible refine Q.out.mono ?_)
    rintro e w1 ⟨rfl, q, rfl⟩
    have e0 := (Ext.refl w).drewN q
    go_wp2_with fail
    go_ret
    rw [HN.out]
    exact ⟨none, 0, rfl, OM.nil _ _ _, e0⟩
  · have HN : Hid (nsp m = nullTo (rowRed m) (cols m) (cols m)) := by unfold nsp; rw [hv]; exact Lib.hid rfl
    have HRM := Lib.hid (rowRed_RM hv)
    have hc := cols_le (validM_true.1 hv).1
    have hb := (rowRed_bound m).1
    rw [hv] at Q
    clear hv
    go_enter Try.func35, Try.ntmps35
    go_wp2_with fail
    (with_reducible refine Q.out.mono ?_)
    rintro e w1 ⟨rfl, q, rfl⟩
    have e0 := (Ext.refl w).drewN q
    generalize w.drewN q = w1 at *
    go_wp2_with fail
    (with_reducible refine (implRowReduce_ok _ _ m _ (h.ext e0) hl HR.out).mono ?_)
    rintro e w2 ⟨a2, c2, rfl, o2, e2⟩
    have E2 := e0.trans e2
    go_wp2_with (go_at_call 81; (with_reducible refine (implColumnsOf_ok _ _ _ _ (h.ext E2)).mono ?_); rintro e w' ⟨rfl, rfl⟩)
    (with_reducible refine (nullSpace_ok _ _ (rowRed m) (cols m) _ o2.reads HRM.out hc hb).mono ?_)
    rintro e w3 ⟨a3, c3, rfl, o3, e3⟩
    have E3 := E2.trans e3
    go_wp2_with fail
    go_ret
    rw [HN.out]
    exact ⟨a3, c3, rfl, o3.mono E2.size_le (Nat.le_refl _), E3⟩

end Go.Proofs.Ytninamlcffemoaa
