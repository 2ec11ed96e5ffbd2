/- Contracts of BytesToSymbols (program and reference); its law. -/
import Derived.Test.YtkegknophppdgaaEnc2
import Derived.Test.YtkegknophppdgaaRowApp
import Derived.Test.YtkegknophppdgaaPairs
import Derived.Deep.RegionHeld3
namespace Go.Proofs.Ytkegknophppdgaa
open Go.RowKit
set_option linter.unusedVariables false
set_option maxRecDepth 20000

def AllB (xs : List Int) : Prop := ∀ x ∈ xs, 0 ≤ x ∧ x ≤ 255
theorem AllB.get {xs : List Int} (h : AllB xs) {k : Nat} {x : Int} (hx : xs[k]? = some x) : 0 ≤ x ∧ x ≤ 255 := h x (List.mem_of_getElem? hx)
theorem AllB.append {xs ys : List Int} (h : AllB xs) (h' : AllB ys) : AllB (xs ++ ys) := fun x hx => (List.mem_append.1 hx).elim (h x) (h' x)
theorem uvF_bytes (f : Nat) (n : Int) (h0 : 0 ≤ n) (h : n < 128 ^ (f + 1)) : AllB (uvF f n) := by
  induction f generalizing n with
  | zero =>
    intro x hx
    simp [uvF] at hx
    subst hx
    simp at h
    omega
  | succ f ih =>
    unfold uvF
    split
    · have hd : n / 128 < 128 ^ (f + 1) := Int.ediv_lt_of_lt_mul (by omega) (by rw [Int.pow_succ] at h; exact h)
      have h1 := ih (n / 128) (Int.ediv_nonneg h0 (by omega)) hd
      intro x hx
      rcases List.mem_cons.1 hx with rfl | hx
      · omega
      · exact h1 x hx
    · intro x hx
      simp at hx
      subst hx
      omega
theorem uv_bytes (n : Int) : AllB (uv n) := by
  unfold uv
  split
  · rename_i h
    have := inR_true.1 h
    exact uvF_bytes 6 n this.1 (by omega)
  · intro x hx
    simp at hx

theorem OwnB.cellAt {w : World} {B g c : Nat} {xs : List Int} (h : OwnB w B (some ⟨g, 0, none⟩) c xs) {i : Nat} {x : Int} (hx : xs[i]? = some x) : w.cell? ⟨g, i, none⟩ = some (.int .u8 x) := by
  have hi := (List.getElem?_eq_some_iff.1 hx).1
  rw [World.ownsRow.cellAt h i (by omega)]
  simp [hx]

/-- A row of m numbers: the first j of ys, then 0. -/
def padTo (m : Nat) (ys : List Int) (j : Nat) : List Int := ys.take j ++ List.replicate (m - j) 0
theorem padTo_zero (m : Nat) (ys : List Int) : padTo m ys 0 = List.replicate m 0 := by simp [padTo]
theorem padTo_length {m : Nat} {ys : List Int} {j : Nat} (h1 : j ≤ m) (h2 : j ≤ ys.length) : (padTo m ys j).length = m := by simp [padTo]; omega
theorem pad_set {m : Nat} {ys : List Int} {j : Nat} {y : Int} (hy : ys[j]? = some y) (hj : j < m) : (padTo m ys j).set j y = padTo m ys (j + 1) := by
  have hl := (List.getElem?_eq_some_iff.1 hy).1
  have ht : (ys.take j).length = j := by simp; omega
  obtain ⟨q, hq⟩ : ∃ q, m - j = q + 1 := ⟨m - j - 1, by omega⟩
  unfold padTo
  rw [List.set_append_right _ _ (by omega), ht, Nat.sub_self, hq, List.replicate_succ, List.set_cons_zero, List.take_add_one, hy, show m - (j + 1) = q by omega, List.append_assoc]
  rfl

/-- One symbol of m bytes, from byte f on. -/
def symRow (m : Nat) (bs : List Int) (f : Nat) : List Int := padTo m (bs.drop f) (min m (bs.length - f))
theorem symRow_length (m : Nat) (bs : List Int) (f : Nat) : (symRow m bs f).length = m := padTo_length (by omega) (by simp; omega)
def symTo (m : Nat) (bs : List Int) (j : Nat) : List (List Int) := (List.range j).map fun i => symRow m bs (i * m)
theorem symTo_length (m : Nat) (bs : List Int) (j : Nat) : (symTo m bs j).length = j := by simp [symTo]
theorem symTo_succ (m : Nat) (bs : List Int) (j : Nat) : symTo m bs (j + 1) = symTo m bs j ++ [symRow m bs (j * m)] := by simp [symTo, List.range_succ]
def symN (m len : Nat) : Nat := (len + m - 1) / m
theorem symN_eq {m len t j : Nat} (ht : t = j * m) (h1 : len ≤ t) (h2 : t < len + m) (hm : 0 < m) : j = symN m len := by
  unfold symN
  symm
  apply Nat.div_eq_of_lt_le
  · omega
  · rw [Nat.succ_mul]; omega
def syms (ds : List Int) (m : Int) : List (List Int) := if inR m 1 16 && decide (ds.length ≤ 400) then symTo m.toNat (encBytes [] ds) (symN m.toNat (encBytes [] ds).length) else []

theorem syms_no {ds : List Int} {m : Int} (h : inR m 1 16 = false ∨ ¬ ds.length ≤ 400) : syms ds m = [] := by
  unfold syms
  rcases h with h | h
  · rw [h]; rfl
  · rw [decide_eq_false h, Bool.and_false]; rfl
theorem syms_yes {ds : List Int} {m : Nat} (h : inR m 1 16 = true) (h' : ds.length ≤ 400) : syms ds m = symTo m (encBytes [] ds) (symN m (encBytes [] ds).length) := by
  unfold syms
  rw [h, decide_eq_true h']
  simp
theorem encBytes_bytes {ds : List Int} (h : AllB ds) : AllB (encBytes [] ds) := by
  unfold encBytes
  exact AllB.append (AllB.append (fun x hx => by simp at hx) (uv_bytes _)) h
theorem encBytes_len (ds : List Int) : (encBytes [] ds).length ≤ ds.length + 7 := by
  have := uv_len ds.length
  unfold encBytes
  simp
  omega

set_option maxHeartbeats 4000000 in
set_option maxRecDepth 100000 in
theorem specBytesToSymbols_ok (a : Option Addr) (c : Nat) (ds : List Int) (m : Int) (w : World) (h : Vals w a (Y ds)) (hl : ds.length ≤ 1048576) (hb : AllB ds) :
    Calls Try.prog 93 #[.slice a ds.length c, .int .i64 m] w (NewM w (syms ds m)) := by
  have o0 := OM.new0 w
  have e0 := (Ext.refl w).alloc (.cells #[] 32)
  have O0 := Lib.hid o0
  have E0 := Lib.hid e0
  clear o0 e0
  cases h1 : inR m 1 16
  · have HN := Lib.hid (syms_no (ds := ds) (.inl h1))
    go_enter Try.func93, Try.ntmps93
    go_wp2_with (go_at_call 94; refine (specInRange_ok _ _ _ _).mono ?_; rintro e w' ⟨rfl, rfl⟩)
    go_ret
    rw [HN.out]
    exact ⟨_, _, rfl, O0.out, E0.out⟩
  by_cases h2 : ds.length ≤ 400
  rotate_left
  · have HN := Lib.hid (syms_no (m := m) (.inr h2))
    have h2' : (400 : Int) < (ds.length : Int) := by omega
    go_enter Try.func93, Try.ntmps93
    go_wp2_with (go_at_call 94; refine (specInRange_ok _ _ _ _).mono ?_; rintro e w' ⟨rfl, rfl⟩)
    go_ret
    rw [HN.out]
    exact ⟨_, _, rfl, O0.out, E0.out⟩
  obtain ⟨m1, m2⟩ := inR_true.1 h1
  obtain ⟨m, rfl⟩ := Int.eq_ofNat_of_zero_le (show 0 ≤ m by omega)
  have HY := Lib.hid (syms_yes h1 h2)
  obtain ⟨bs, hbs⟩ : ∃ bs, Hid (bs = encBytes [] ds) := ⟨_, rfl⟩
  have hbl : bs.length ≤ 407 := by rw [hbs.out]; have := encBytes_len ds; omega
  have HB : Hid (AllB bs) := by rw [hbs.out]; exact encBytes_bytes hb
  rw [← hbs.out] at HY
  obtain ⟨us, hus⟩ : ∃ us, Hid (us = [] ++ uv ds.length) := ⟨[] ++ uv ds.length, Lib.hid rfl⟩
  have hbu : Hid (bs = us ++ ds) := by rw [hbs.out, hus.out]; exact Lib.hid rfl
  have hul : us.length ≤ 7 := by rw [hus.out]; have := uv_len ds.length; simpa using this
  have hcc := specAppendUvarint_ok (some ⟨w.heap.size + 1, 0, none⟩) 0 [] ds.length ((w.alloc (.cells #[] 32)).alloc (.cells #[] 5)) (Vals.nil _ _) (by simp)
  rw [← hus.out] at hcc
  have HCC := Lib.hid hcc
  clear hcc
  go_enter Try.func93, Try.ntmps93
  go_wp2_with (go_at_call 94; refine (specInRange_ok _ _ _ _).mono ?_; rintro e w' ⟨rfl, rfl⟩)
  refine HCC.out.mono ?_
  rintro e w1 ⟨a1, c1, rfl, o1, e1⟩
  have e01 := (E0.out.alloc (.cells #[] 5)).trans e1
  have O1 := O0.out.ext (((Ext.refl _).alloc (.cells #[] 5)).trans e1)
  have o1' := o1.more (B' := w.heap.size) (by simp; omega)
  have o1z : OwnB w1 (w.heap.size + 1 + 1) a1 c1 us := by simpa using o1
  have z1 := e01.size_le
  clear o1 HCC O0
  go_wp2_with (at_builtin; refine wpList_appY _ rfl _ _ rfl w.heap.size _ _ us rfl o1' _ _ ds rfl (h.ext e01) bs hbu.out (by omega) z1 ?_)
  intro a2 c2 w2 o2 g2 _
  have e02 := e01.grown g2 (fun k hk => (o1'.block k hk).1)
  have O2 : OM w2 w.heap.size w2.heap.size (some ⟨w.heap.size, 0, none⟩) 0 [] := (O1.grownBy g2 (fun k hk => .inr (by have := (o1z.block k hk).1; simp; omega))).mono (Nat.le_refl _) (by have := g2.size; have := e1.size_le; simp at this ⊢; omega)
  clear g2 O1 o1' o1z e1
  go_wp2_with fail
  go_loopw [5, 7] (fun v i wr => ∃ (j t : Nat) (a3 : Option Addr) (c3 : Nat) (yss : List (List Int)), i = .int .i64 t ∧ v = .slice a3 yss.length c3 ∧ Hid (t = j * m) ∧ t < bs.length + m ∧ Hid (yss = symTo m bs j) ∧ j ≤ t ∧ yss.length = j ∧ OM wr w.heap.size wr.heap.size a3 c3 yss ∧ OwnB wr w.heap.size a2 c2 bs ∧ Ext w wr) (fun _ i _ => bs.length + m - (intOf i).toNat)
  case atStart => exact ⟨0, 0, _, _, [], rfl, rfl, by simp [Hid], by omega, rfl, Nat.le_refl _, rfl, O2, o2, e02⟩
  case round =>
    clear O2 o2 e02 e01
    obtain ⟨j, t, a3, c3, yss, rfl, rfl, htj, htl, hys, hjt, hyl, ho, hb2, he⟩ := hrel
    by_cases hlt : t < bs.length
    · obtain ⟨i, hi, hz0, hz1, hz2⟩ := info_parts infoInt
      have HYL := Lib.hid hyl
      clear hyl
      go_wp2_with (at_make; refine wpList_make_full _ rfl _ _ 32 rfl wr.heap.size 3 i (.int .i64 0) 1 Try.underlying32 hi hz0 hz1 _ _ _ _ m rfl rfl rfl rfl ?b1 ?b2 (Nat.le_refl _) ?_)
      case b1 => rw [hz2]; omega
      case b2 => unfold maxLen; omega
      intro w3 hown hgrow
      have q0 : OI w3 wr.heap.size w3.heap.size (some ⟨wr.heap.size, 0, none⟩) m (padTo m (bs.drop t) 0) := by
        refine OI.of ?_
        rw [padTo_zero]
        unfold OwnI
        simpa [Value.cells, toList_madeCells_one] using hown
      have e3 := (Ext.refl wr).grown hgrow (by simp)
      have hv2 := Lib.hid hb2.vals
      clear hown hgrow
      go_wp2_with fail
      obtain ⟨g, rfl, _, _, g3⟩ := (OB.of hb2).form (by omega)
      have HB2 := Lib.hid hb2
      have HO := Lib.hid ho
      clear hv2 hb2 ho
      obtain ⟨wq, hwq⟩ : ∃ wq, wq = wr := ⟨_, rfl⟩
      subst hwq
      go_loopw [9] (fun k wr => ∃ q : Nat, q ≤ m ∧ q ≤ bs.length - t ∧ k = .int .i64 q ∧ OI wr wq.heap.size w3.heap.size (some ⟨wq.heap.size, 0, none⟩) m (padTo m (bs.drop t) q) ∧ Ext wq wr ∧ w3.heap.size ≤ wr.heap.size) (fun k _ => m - (intOf k).toNat)
      case atStart => exact ⟨0, Nat.zero_le _, Nat.zero_le _, rfl, q0, e3, Nat.le_refl _⟩
      case round =>
        clear q0 e3
        obtain ⟨q, hq1, hq2, rfl, ho4, he4, hz4⟩ := hrel
        by_cases hq : q < m ∧ t + q < bs.length
        · obtain ⟨hqm, hqt⟩ := hq
          obtain ⟨y, hy⟩ : ∃ y, bs[t + q]? = some y := ⟨_, List.getElem?_eq_getElem hqt⟩
          have hy' : (bs.drop t)[q]? = some y := by rw [List.getElem?_drop]; exact hy
          have hcell := (HB2.out.ext he4).cellAt hy
          obtain ⟨y1, y2⟩ := HB.out.get hy
          have hpl := padTo_length (ys := bs.drop t) hq1 (by simp; omega)
          obtain ⟨s1, s2, s3, u, s4⟩ := ho4.store q y (by omega)
          rw [pad_set hy' hqm] at s1
          have s5 := Span.ext he4 s2 (Nat.le_refl _)
          have s6 := s2.size
          have i1 : (q : Int) < (m : Int) := by omega
          have i2 : (t : Int) + (q : Int) < (bs.length : Int) := by omega
          have HQ := Lib.hid hy
          clear hy hy' hpl ho4 he4 s2
          go_wp2_with fail
          go_roundw
          case rel => exact ⟨q + 1, by omega, by omega, by go_num, s1, s5, by omega⟩
          case measure => simp [intOf]; omega
        · have hqe : q = min m (bs.length - t) := by omega
          have hrow : OI wr wq.heap.size w3.heap.size (some ⟨wq.heap.size, 0, none⟩) m (symRow m bs t) := by unfold symRow; rw [← hqe]; exact ho4
          have hrl := Lib.hid (symRow_length m bs t)
          obtain ⟨row, hro⟩ : ∃ row, Hid (row = symRow m bs t) := ⟨_, rfl⟩
          rw [← hro.out] at hrow hrl
          obtain ⟨zss, hzs⟩ : ∃ zss, Hid (zss = yss ++ [row]) := ⟨_, rfl⟩
          have hnew : Vals (wr.alloc (.cells #[.slice (some ⟨wq.heap.size, 0, none⟩) m m] 32)) (some ⟨wr.heap.size, 0, none⟩) [.slice (some ⟨wq.heap.size, 0, none⟩) row.length m] := by rw [hrl.out]; exact Vals.new wr [.slice (some ⟨wq.heap.size, 0, none⟩) m m] 32
          have O5 := (HO.out.ext he4).ext ((Ext.refl wr).alloc (.cells #[.slice (some ⟨wq.heap.size, 0, none⟩) m m] 32))
          have R5 := (hrow.ext ((Ext.refl wr).alloc (.cells #[.slice (some ⟨wq.heap.size, 0, none⟩) m m] 32))).mono (C := wq.heap.size) (C2 := (wr.alloc (.cells #[.slice (some ⟨wq.heap.size, 0, none⟩) m m] 32)).heap.size) (Nat.le_refl _) (by simp; omega)
          have B5 := (HB2.out.ext he4).ext ((Ext.refl wr).alloc (.cells #[.slice (some ⟨wq.heap.size, 0, none⟩) m m] 32))
          have E5 := (he.trans he4).alloc (.cells #[.slice (some ⟨wq.heap.size, 0, none⟩) m m] 32)
          have zq := he.size_le
          have zr := he4.size_le
          have hyl : yss.length ≤ 407 := by rw [HYL.out]; omega
          have hap : blockOf (some (⟨g, 0, none⟩ : Addr)) ≠ blockOf a3 := by
            obtain ⟨rs, q1, _⟩ := HO.out
            intro e
            exact block_ne q1 HB2.out (by decide) g e.symm rfl
          have hob := HO.out.block
          clear hqe ho4 he4 hrow he
          by_cases hqm : q < m
          · have i1 : (q : Int) < (m : Int) := by omega
            have i2 : ¬ (t : Int) + (q : Int) < (bs.length : Int) := by omega
            go_wp2_with (at_builtin; refine wpList_appM _ rfl _ _ rfl w.heap.size wq.heap.size _ _ yss rfl O5 _ _ _ _ row rfl hnew R5 zq (by simp; omega) zss hzs.out (by omega) ?_)
            intro a5 c5 w5 o5 g5
            have e5 := E5.grown g5 (fun k hk => (hob k hk).1)
            have b5 := B5.kept g5 (.inr hap)
            clear g5 E5 B5 O5 R5 hnew hob hap HO HB2
            go_wp2_with fail
            go_roundw
            case rel => exact ⟨j + 1, t + m, a5, c5, zss, by go_num, rfl, by rw [Nat.succ_mul, ← htj.out]; exact Lib.hid rfl, by omega, by rw [symTo_succ, ← htj.out, ← hys.out, ← hro.out]; exact hzs, by omega, by rw [hzs.out, List.length_append, HYL.out]; rfl, o5, b5, e5⟩
            case measure => simp [intOf]; omega
          · have i1 : ¬ (q : Int) < (m : Int) := by omega
            go_wp2_with (at_builtin; refine wpList_appM _ rfl _ _ rfl w.heap.size wq.heap.size _ _ yss rfl O5 _ _ _ _ row rfl hnew R5 zq (by simp; omega) zss hzs.out (by omega) ?_)
            intro a5 c5 w5 o5 g5
            have e5 := E5.grown g5 (fun k hk => (hob k hk).1)
            have b5 := B5.kept g5 (.inr hap)
            clear g5 E5 B5 O5 R5 hnew hob hap HO HB2
            go_wp2_with fail
            go_roundw
            case rel => exact ⟨j + 1, t + m, a5, c5, zss, by go_num, rfl, by rw [Nat.succ_mul, ← htj.out]; exact Lib.hid rfl, by omega, by rw [symTo_succ, ← htj.out, ← hys.out, ← hro.out]; exact hzs, by omega, by rw [hzs.out, List.length_append, HYL.out]; rfl, o5, b5, e5⟩
            case measure => simp [intOf]; omega
    · have hj := symN_eq htj.out (by omega) htl (by omega)
      have HN : Hid (syms ds (m : Int) = yss) := by rw [HY.out, hys.out, ← hj]; exact Lib.hid rfl
      clear hj
      go_wp2_with fail
      go_ret
      rw [HN.out]
      exact ⟨a3, c3, rfl, ho, he⟩

end Go.Proofs.Ytkegknophppdgaa
