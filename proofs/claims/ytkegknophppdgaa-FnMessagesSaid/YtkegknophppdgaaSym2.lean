/- Contract of the program's BytesToSymbols; its law. -/
import Derived.Test.YtkegknophppdgaaSym
namespace Go.Proofs.Ytkegknophppdgaa
open Go.RowKit
set_option linter.unusedVariables false
set_option maxRecDepth 20000

theorem OwnB.cap {w : World} {B : Nat} {a : Option Addr} {c : Nat} {xs : List Int} (h : OwnB w B a c xs) : xs.length ≤ c := by
  rcases h.2 with ⟨_, hn⟩ | ⟨g, cap, cur, hv, _, _, hc, _⟩
  · omega
  · injection hv with _ _ h3
    omega

set_option maxHeartbeats 4000000 in
set_option maxRecDepth 100000 in
theorem implBytesToSymbols_ok (a : Option Addr) (c : Nat) (ds : List Int) (m : Int) (w : World) (h : Vals w a (Y ds)) (hl : ds.length ≤ 1048576) (hb : AllB ds) :
    Calls Try.prog 74 #[.slice a ds.length c, .int .i64 m] w (NewM w (syms ds m)) := by
  cases h1 : inR m 1 16
  · have HN := Lib.hid (syms_no (ds := ds) (.inl h1))
    go_enter Try.func74, Try.ntmps74
    go_wp2_with (go_at_call 96; refine (implInRange_ok _ _ _ _).mono ?_; rintro e w' ⟨rfl, rfl⟩)
    go_ret
    rw [HN.out]
    exact ⟨none, 0, rfl, OM.nil _ _ _, Ext.refl _⟩
  by_cases h2 : ds.length ≤ 400
  rotate_left
  · have HN := Lib.hid (syms_no (m := m) (.inr h2))
    have h2' : (400 : Int) < (ds.length : Int) := by omega
    go_enter Try.func74, Try.ntmps74
    go_wp2_with (go_at_call 96; refine (implInRange_ok _ _ _ _).mono ?_; rintro e w' ⟨rfl, rfl⟩)
    go_ret
    rw [HN.out]
    exact ⟨none, 0, rfl, OM.nil _ _ _, Ext.refl _⟩
  obtain ⟨m1, m2⟩ := inR_true.1 h1
  obtain ⟨m, rfl⟩ := Int.eq_ofNat_of_zero_le (show 0 ≤ m by omega)
  have HY := Lib.hid (syms_yes h1 h2)
  have hcc := implAppendBytes_ok none 0 [] a c ds w (Vals.nil _ _) h (by simp) hl
  obtain ⟨bs, hbs⟩ : ∃ bs, Hid (bs = encBytes [] ds) := ⟨_, rfl⟩
  have hbl : bs.length ≤ 407 := by rw [hbs.out]; have := encBytes_len ds; omega
  have HB : Hid (AllB bs) := by rw [hbs.out]; exact encBytes_bytes hb
  rw [← hbs.out] at HY hcc
  have HCC := Lib.hid hcc
  clear hcc
  go_enter Try.func74, Try.ntmps74
  go_wp2_with (go_at_call 96; refine (implInRange_ok _ _ _ _).mono ?_; rintro e w' ⟨rfl, rfl⟩)
  refine HCC.out.mono ?_
  rintro e w2 ⟨a2, c2, rfl, o2, e02⟩
  have O2 : OM w2 w.heap.size w2.heap.size none 0 [] := OM.nil _ _ _
  go_wp2_with fail
  go_loopw [6, 7] (fun v i wr => ∃ (j t : Nat) (a3 : Option Addr) (c3 : Nat) (yss : List (List Int)), i = .int .i64 t ∧ v = .slice a3 yss.length c3 ∧ Hid (t = j * m) ∧ t < bs.length + m ∧ Hid (yss = symTo m bs j) ∧ j ≤ t ∧ yss.length = j ∧ OM wr w.heap.size wr.heap.size a3 c3 yss ∧ OwnB wr w.heap.size a2 c2 bs ∧ Ext w wr) (fun _ i _ => bs.length + m - (intOf i).toNat)
  case atStart => exact ⟨0, 0, _, _, [], rfl, rfl, by simp [Hid], by omega, rfl, Nat.le_refl _, rfl, O2, o2, e02⟩
  case round =>
    clear O2 o2 e02 HCC
    obtain ⟨j, t, a3, c3, yss, rfl, rfl, htj, htl, hys, hjt, hyl, ho, hb2, he⟩ := hrel
    by_cases hlt : t < bs.length
    · obtain ⟨i, hi, hz0, hz1, hz2⟩ := info_parts infoInt
      have HYL := Lib.hid hyl
      clear hyl
      go_wp2_with (at_make; refine wpList_make_full _ rfl _ _ 32 rfl wr.heap.size 3 i (.int .i64 0) 1 Try.underlying32 hi hz0 hz1 _ _ _ _ m rfl rfl rfl rfl ?b1 ?b2 (Nat.le_refl _) ?_)
      case b1 => rw [hz2]; omega
      case b2 => unfold maxLen; omega
      intro w3 hown hgrow
      have q0 : OI w3 wr.heap.size w3.heap.size (some ⟨wr.heap.size, 0, none⟩) m (padTo m (bs.drop t) 0) := by
        refine OI.of ?_
        rw [padTo_zero]
        unfold OwnI
        simpa [Value.cells, toList_madeCells_one] using hown
      have e3 := (Ext.refl wr).grown hgrow (by simp)
      clear hown hgrow
      obtain ⟨g, rfl, _, _, g3⟩ := (OB.of hb2).form (by omega)
      have hcap := hb2.cap
      have hne : ¬ c2 = t := by omega
      by_cases hmn : t + m ≤ bs.length
      · have i1 : (t : Int) + (m : Int) ≤ (bs.length : Int) := by omega
        go_wp2_with fail
        rw [show t + m - t = m by omega]
        have hnm : m ≤ m := by omega
        have hnL : t + m ≤ bs.length := by omega
        have HNE : Hid (m = min m (bs.length - t)) := Lib.hid (by omega)
        clear hmn i1
        have HB2 := Lib.hid hb2
        have HO := Lib.hid ho
        clear hb2 ho
        obtain ⟨wq, hwq⟩ : ∃ wq, wq = wr := ⟨_, rfl⟩
        subst hwq
        go_loopw [40] (fun k wr => ∃ q : Nat, q ≤ m ∧ k = .int .i64 q ∧ OI wr wq.heap.size w3.heap.size (some ⟨wq.heap.size, 0, none⟩) m (padTo m (bs.drop t) q) ∧ Ext wq wr ∧ w3.heap.size ≤ wr.heap.size) (fun k _ => m - (intOf k).toNat)
        case atStart => exact ⟨0, Nat.zero_le _, rfl, q0, e3, Nat.le_refl _⟩
        case round =>
          clear q0 e3
          obtain ⟨q, hq1, rfl, ho4, he4, hz4⟩ := hrel
          by_cases hq : q < m
          · obtain ⟨y, hy⟩ : ∃ y, bs[t + q]? = some y := ⟨_, List.getElem?_eq_getElem (by omega)⟩
            have hy' : (bs.drop t)[q]? = some y := by rw [List.getElem?_drop]; exact hy
            have hcell := (HB2.out.ext he4).cellAt hy
            obtain ⟨y1, y2⟩ := HB.out.get hy
            have hpl := padTo_length (m := m) (ys := bs.drop t) (j := q) (by omega) (by simp; omega)
            obtain ⟨s1, s2, s3, u, s4⟩ := ho4.store q y (by omega)
            rw [pad_set hy' (by omega)] at s1
            have s5 := Span.ext he4 s2 (Nat.le_refl _)
            have s6 := s2.size
            have i1 : (q : Int) < (m : Int) := by omega
            have HQ := Lib.hid hy
            clear hy hy' hpl ho4 he4 s2
            go_wp2_with fail
            go_roundw
            case rel => exact ⟨q + 1, by omega, by go_num, s1, s5, by omega⟩
            case measure => simp [intOf]; omega
          · obtain rfl : m = q := by omega
            have hrow : OI wr wq.heap.size w3.heap.size (some ⟨wq.heap.size, 0, none⟩) m (symRow m bs t) := by unfold symRow; rw [← HNE.out]; exact ho4
            have hrl := Lib.hid (symRow_length m bs t)
            obtain ⟨row, hro⟩ : ∃ row, Hid (row = symRow m bs t) := ⟨_, rfl⟩
            rw [← hro.out] at hrow hrl
            obtain ⟨zss, hzs⟩ : ∃ zss, Hid (zss = yss ++ [row]) := ⟨_, rfl⟩
            have hnew : Vals (wr.alloc (.cells #[.slice (some ⟨wq.heap.size, 0, none⟩) m m] 32)) (some ⟨wr.heap.size, 0, none⟩) [.slice (some ⟨wq.heap.size, 0, none⟩) row.length m] := by rw [hrl.out]; exact Vals.new wr [.slice (some ⟨wq.heap.size, 0, none⟩) m m] 32
            have O5 := (HO.out.ext he4).ext ((Ext.refl wr).alloc (.cells #[.slice (some ⟨wq.heap.size, 0, none⟩) m m] 32))
            have R5 := (hrow.ext ((Ext.refl wr).alloc (.cells #[.slice (some ⟨wq.heap.size, 0, none⟩) m m] 32))).mono (C := wq.heap.size) (C2 := (wr.alloc (.cells #[.slice (some ⟨wq.heap.size, 0, none⟩) m m] 32)).heap.size) (Nat.le_refl _) (by simp; omega)
            have B5 := (HB2.out.ext he4).ext ((Ext.refl wr).alloc (.cells #[.slice (some ⟨wq.heap.size, 0, none⟩) m m] 32))
            have E5 := (he.trans he4).alloc (.cells #[.slice (some ⟨wq.heap.size, 0, none⟩) m m] 32)
            have zq := he.size_le
            have zr := he4.size_le
            have hyl : yss.length ≤ 407 := by rw [HYL.out]; omega
            have hap : blockOf (some (⟨g, 0, none⟩ : Addr)) ≠ blockOf a3 := by
              obtain ⟨rs, q1, _⟩ := HO.out
              intro e
              exact block_ne q1 HB2.out (by decide) g e.symm rfl
            have hob := HO.out.block
            clear ho4 he4 hrow he
            go_wp2_with (at_builtin; refine wpList_appM _ rfl _ _ rfl w.heap.size wq.heap.size _ _ yss rfl O5 _ _ _ _ row rfl hnew R5 zq (by simp; omega) zss hzs.out (by omega) ?_)
            intro a5 c5 w5 o5 g5
            have e5 := E5.grown g5 (fun k hk => (hob k hk).1)
            have b5 := B5.kept g5 (.inr hap)
            clear g5 E5 B5 O5 R5 hnew hob hap HO HB2
            go_wp2_with fail
            go_roundw
            case rel => exact ⟨j + 1, t + m, a5, c5, zss, by go_num, rfl, by rw [Nat.succ_mul, ← htj.out]; exact Lib.hid rfl, by omega, by rw [symTo_succ, ← htj.out, ← hys.out, ← hro.out]; exact hzs, by omega, by rw [hzs.out, List.length_append, HYL.out]; rfl, o5, b5, e5⟩
            case measure => simp [intOf]; omega
      · have i1 : (bs.length : Int) < (t : Int) + (m : Int) := by omega
        go_wp2_with fail
        generalize hn : bs.length - t = n
        have hnm : n ≤ m := by omega
        have hnL : t + n ≤ bs.length := by omega
        have HNE : Hid (n = min m (bs.length - t)) := Lib.hid (by omega)
        clear hn hmn i1
        have HB2 := Lib.hid hb2
        have HO := Lib.hid ho
        clear hb2 ho
        obtain ⟨wq, hwq⟩ : ∃ wq, wq = wr := ⟨_, rfl⟩
        subst hwq
        go_loopw [40] (fun k wr => ∃ q : Nat, q ≤ n ∧ k = .int .i64 q ∧ OI wr wq.heap.size w3.heap.size (some ⟨wq.heap.size, 0, none⟩) m (padTo m (bs.drop t) q) ∧ Ext wq wr ∧ w3.heap.size ≤ wr.heap.size) (fun k _ => n - (intOf k).toNat)
        case atStart => exact ⟨0, Nat.zero_le _, rfl, q0, e3, Nat.le_refl _⟩
        case round =>
          clear q0 e3
          obtain ⟨q, hq1, rfl, ho4, he4, hz4⟩ := hrel
          by_cases hq : q < n
          · obtain ⟨y, hy⟩ : ∃ y, bs[t + q]? = some y := ⟨_, List.getElem?_eq_getElem (by omega)⟩
            have hy' : (bs.drop t)[q]? = some y := by rw [List.getElem?_drop]; exact hy
            have hcell := (HB2.out.ext he4).cellAt hy
            obtain ⟨y1, y2⟩ := HB.out.get hy
            have hpl := padTo_length (m := m) (ys := bs.drop t) (j := q) (by omega) (by simp; omega)
            obtain ⟨s1, s2, s3, u, s4⟩ := ho4.store q y (by omega)
            rw [pad_set hy' (by omega)] at s1
            have s5 := Span.ext he4 s2 (Nat.le_refl _)
            have s6 := s2.size
            have i1 : (q : Int) < (m : Int) := by omega
            have HQ := Lib.hid hy
            clear hy hy' hpl ho4 he4 s2
            go_wp2_with fail
            go_roundw
            case rel => exact ⟨q + 1, by omega, by go_num, s1, s5, by omega⟩
            case measure => simp [intOf]; omega
          · obtain rfl : q = n := by omega
            have hrow : OI wr wq.heap.size w3.heap.size (some ⟨wq.heap.size, 0, none⟩) m (symRow m bs t) := by unfold symRow; rw [← HNE.out]; exact ho4
            have hrl := Lib.hid (symRow_length m bs t)
            obtain ⟨row, hro⟩ : ∃ row, Hid (row = symRow m bs t) := ⟨_, rfl⟩
            rw [← hro.out] at hrow hrl
            obtain ⟨zss, hzs⟩ : ∃ zss, Hid (zss = yss ++ [row]) := ⟨_, rfl⟩
            have hnew : Vals (wr.alloc (.cells #[.slice (some ⟨wq.heap.size, 0, none⟩) m m] 32)) (some ⟨wr.heap.size, 0, none⟩) [.slice (some ⟨wq.heap.size, 0, none⟩) row.length m] := by rw [hrl.out]; exact Vals.new wr [.slice (some ⟨wq.heap.size, 0, none⟩) m m] 32
            have O5 := (HO.out.ext he4).ext ((Ext.refl wr).alloc (.cells #[.slice (some ⟨wq.heap.size, 0, none⟩) m m] 32))
            have R5 := (hrow.ext ((Ext.refl wr).alloc (.cells #[.slice (some ⟨wq.heap.size, 0, none⟩) m m] 32))).mono (C := wq.heap.size) (C2 := (wr.alloc (.cells #[.slice (some ⟨wq.heap.size, 0, none⟩) m m] 32)).heap.size) (Nat.le_refl _) (by simp; omega)
            have B5 := (HB2.out.ext he4).ext ((Ext.refl wr).alloc (.cells #[.slice (some ⟨wq.heap.size, 0, none⟩) m m] 32))
            have E5 := (he.trans he4).alloc (.cells #[.slice (some ⟨wq.heap.size, 0, none⟩) m m] 32)
            have zq := he.size_le
            have zr := he4.size_le
            have hyl : yss.length ≤ 407 := by rw [HYL.out]; omega
            have hap : blockOf (some (⟨g, 0, none⟩ : Addr)) ≠ blockOf a3 := by
              obtain ⟨rs, q1, _⟩ := HO.out
              intro e
              exact block_ne q1 HB2.out (by decide) g e.symm rfl
            have hob := HO.out.block
            clear ho4 he4 hrow he
            go_wp2_with (at_builtin; refine wpList_appM _ rfl _ _ rfl w.heap.size wq.heap.size _ _ yss rfl O5 _ _ _ _ row rfl hnew R5 zq (by simp; omega) zss hzs.out (by omega) ?_)
            intro a5 c5 w5 o5 g5
            have e5 := E5.grown g5 (fun k hk => (hob k hk).1)
            have b5 := B5.kept g5 (.inr hap)
            clear g5 E5 B5 O5 R5 hnew hob hap HO HB2
            go_wp2_with fail
            go_roundw
            case rel => exact ⟨j + 1, t + m, a5, c5, zss, by go_num, rfl, by rw [Nat.succ_mul, ← htj.out]; exact Lib.hid rfl, by omega, by rw [symTo_succ, ← htj.out, ← hys.out, ← hro.out]; exact hzs, by omega, by rw [hzs.out, List.length_append, HYL.out]; rfl, o5, b5, e5⟩
            case measure => simp [intOf]; omega
    · have hj := symN_eq htj.out (by omega) htl (by omega)
      have HN : Hid (syms ds (m : Int) = yss) := by rw [HY.out, hys.out, ← hj]; exact Lib.hid rfl
      clear hj
      go_wp2_with fail
      go_ret
      rw [HN.out]
      exact ⟨a3, c3, rfl, ho, he⟩

end Go.Proofs.Ytkegknophppdgaa
