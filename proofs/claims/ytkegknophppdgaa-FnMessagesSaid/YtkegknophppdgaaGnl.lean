/- The law's helpers over slices of generations: copies, comparisons, marks. -/
import Derived.Test.YtkegknophppdgaaGns
import Derived.Deep.RegionHeld3
namespace Go.Proofs.Ytkegknophppdgaa
open Go.RowKit
set_option linter.unusedVariables false
set_option maxRecDepth 20000

/-- Slices of generations, owned. -/
def OGs (w : World) (B B2 : Nat) (a : Option Addr) (c : Nat) (gs : List Gn) : Prop := OS GK w B B2 a c gs.length gs
section
variable {w w' : World} {B B2 C C2 c : Nat} {a : Option Addr} {gs : List Gn}
theorem OGs.reads (h : OGs w B B2 a c gs) : SR GK w a gs := OS.reads GK_ok h
theorem OGs.ext (h : OGs w B B2 a c gs) (he : Ext w w') : OGs w' B B2 a c gs := OS.ext GK_ok h he
theorem OGs.span (h : OGs w B B2 a c gs) (hs : Span C C2 w w') (hd : B2 ≤ C ∨ C2 ≤ B) : OGs w' B B2 a c gs := OS.span GK_ok h hs hd
theorem OGs.mono (h : OGs w B B2 a c gs) (h1 : C ≤ B) (h2 : B2 ≤ C2) : OGs w C C2 a c gs := OS.mono h h1 h2
theorem SRG.ext (h : SR GK w a gs) (he : Ext w w') : SR GK w' a gs := SR.ext GK_ok h he
end
def NewGs (w : World) (gs : List Gn) (e : Ending) (w' : World) : Prop := ∃ a c, e = .returned (.slice a gs.length c) ∧ OGs w' w.heap.size w'.heap.size a c gs ∧ Ext w w'

/-- How much a slice of generations holds: its numbers, and one for each generation. -/
def totG : List Gn → Nat
  | [] => 0
  | g :: r => 1 + tot g.2 + totG r
theorem totG_app (a b : List Gn) : totG (a ++ b) = totG a + totG b := by
  induction a with
  | nil => simp [totG]
  | cons g r ih => simp only [List.cons_append, totG, ih]; omega
theorem totG_succ {gs : List Gn} {k : Nat} {g : Gn} (h : gs[k]? = some g) : totG (gs.take (k + 1)) = totG (gs.take k) + 1 + tot g.2 := by
  rw [List.take_add_one, h, totG_app]
  simp [totG]
  omega
theorem totG_le (gs : List Gn) (k : Nat) : totG (gs.take k) ≤ totG gs := by
  have : totG gs = totG (gs.take k) + totG (gs.drop k) := by rw [← totG_app, List.take_append_drop]
  omega
def upGs (k : Int) : List Gn → List Gn
  | [] => []
  | g :: r => (k, upRows (k + 1) g.2) :: upGs (k + 1 + tot g.2) r
theorem upGs_length (k : Int) (gs : List Gn) : (upGs k gs).length = gs.length := by
  induction gs generalizing k with
  | nil => rfl
  | cons g r ih => simp [upGs, ih]
theorem upGs_get {k : Int} {gs : List Gn} {i : Nat} {g : Gn} (h : gs[i]? = some g) : (upGs k gs)[i]? = some (k + totG (gs.take i), upRows (k + totG (gs.take i) + 1) g.2) := by
  induction gs generalizing k i with
  | nil => simp at h
  | cons x r ih =>
    cases i with
    | zero =>
      simp at h
      subst h
      simp [upGs, totG]
    | succ i =>
      simp at h
      simp only [upGs, List.getElem?_cons_succ, List.take_succ_cons, totG]
      rw [ih h]
      congr 2
      · omega
      · congr 1; omega
/-- The first i generations are marked. -/
def mkG (k : Int) (gs : List Gn) (i : Nat) : List Gn := (upGs k gs).take i ++ gs.drop i
theorem mkG_zero (k : Int) (gs : List Gn) : mkG k gs 0 = gs := by simp [mkG]
theorem mkG_all {k : Int} {gs : List Gn} {i : Nat} (h : gs.length ≤ i) : mkG k gs i = upGs k gs := by
  simp only [mkG]
  rw [List.drop_eq_nil_of_le h, List.append_nil, List.take_of_length_le (by rw [upGs_length]; exact h)]
theorem mkG_length (k : Int) (gs : List Gn) (i : Nat) : (mkG k gs i).length = gs.length := by
  simp [mkG, upGs_length]
  omega
theorem mkG_at {k : Int} {gs : List Gn} {i : Nat} {g : Gn} (h : gs[i]? = some g) : (mkG k gs i)[i]? = some g := by
  have hi := (List.getElem?_eq_some_iff.1 h).1
  have hl : ((upGs k gs).take i).length = i := by rw [List.length_take, upGs_length]; omega
  rw [mkG, List.getElem?_append_right (by omega), hl, List.getElem?_drop]
  simpa using h
theorem mkG_succ {k : Int} {gs : List Gn} {i : Nat} {g : Gn} (h : gs[i]? = some g) : mkG k gs (i + 1) = (mkG k gs i).set i (k + totG (gs.take i), upRows (k + totG (gs.take i) + 1) g.2) := by
  have hi := (List.getElem?_eq_some_iff.1 h).1
  have hl : ((upGs k gs).take i).length = i := by rw [List.length_take, upGs_length]; omega
  rw [mkG, mkG, List.set_append_right _ _ (by omega), hl, Nat.sub_self, List.drop_eq_getElem_cons hi, List.set_cons_zero, List.take_add_one, upGs_get h]
  simp

set_option maxHeartbeats 4000000 in
theorem toGenerationS_ok (a : Option Addr) (c : Nat) (gs : List Gn) (w : World) (h : SR GK w a gs) (hl : gs.length ≤ 1048576) (hr : ∀ g ∈ gs, g.2.length ≤ 1048576 ∧ ∀ xs ∈ g.2, xs.length ≤ 1048576) :
    Calls Try.prog 55 #[.slice a gs.length c] w (NewGs w gs) := by
  have HR := Lib.hid hr
  have HA := Lib.hid h
  obtain ⟨i, hi, hz0, hz1, hz2⟩ := info_parts infoGn
  clear hr h
  go_enter Try.func55, Try.ntmps55
  go_wp2_with (at_make; refine wpList_make_full _ rfl _ _ 23 rfl w.heap.size 53 i _ 2 Try.underlying23 hi hz0 hz1 _ _ _ _ gs.length rfl rfl rfl rfl ?b1 ?b2 (Nat.le_refl _) ?_)
  case b1 => rw [hz2]; omega
  case b2 => unfold maxLen; omega
  intro u1 hown hgrow
  have hmz : (madeCells #[.int .i64 0, .slice none 0 0] (gs.length * 2)).toList = zers GK gs.length := made_zers GK_ok _ rfl _
  obtain ⟨gb, hgb⟩ : ∃ gb, gb = w.heap.size := ⟨_, rfl⟩
  rw [hmz, ← hgb] at hown
  rw [← hgb]
  have e1 := (Ext.refl w).grown hgrow (by simp)
  have hzu : gb < u1.heap.size := (ownsRow_blockS hown gb rfl).2
  have o1 : OS GK u1 w.heap.size u1.heap.size (some ⟨gb, 0, none⟩) gs.length gs.length (gs.take 0) := by
    refine ⟨[], [], rfl, rfl, by simp, ?_, fun k hk => ?_, fun i h r x hh => by simp at hh, fun i j r s _ hr => by simp at hr⟩
    · rw [← hgb, show flat GK [] (gs.take 0) ++ zers GK (gs.length - (gs.take 0).length) = zers GK gs.length by simp [flat]]
      exact hown
    · have : gb = k := by simpa [blockOf] using hk
      subst this
      exact ⟨hzu, fun i r hr => by simp at hr⟩
  have hgw : w.heap.size ≤ gb := by omega
  clear hown hgrow hmz hgb hzu
  go_wp2_with fail
  go_loopw [4] (fun i wr => ∃ k : Nat, k ≤ gs.length ∧ i = .int .i64 k ∧ OS GK wr w.heap.size wr.heap.size (some ⟨gb, 0, none⟩) gs.length gs.length (gs.take k) ∧ Ext w wr) (fun i _ => gs.length - (intOf i).toNat)
  case atStart => exact ⟨0, Nat.zero_le _, rfl, o1, e1⟩
  case round =>
    clear o1 e1
    obtain ⟨k, hk, rfl, ho, he⟩ := hrel
    by_cases hlt : k < gs.length
    · obtain ⟨b, o, ra, rc, n, xss, rfl, hb, hx, hc0, hc1, hM⟩ := (SRG.ext HA.out he).gn hlt
      obtain ⟨hr1, hr2⟩ := HR.out _ (List.mem_of_getElem? hx.out)
      have i1 : (k : Int) < (gs.length : Int) := by omega
      have CT := Lib.hid (toGeneration_ok n ra rc xss wr hM hr1 hr2)
      go_wp2_with fail
      (with_reducible refine CT.out.mono ?_)
      rintro e w2 ⟨a2, c2, rfl, o2, e2⟩
      have X2 := he.trans e2
      have hz := e2.size_le
      have hlk : (gs.take k).length = k := by rw [List.length_take]; omega
      obtain ⟨n0, n1, n2, n3⟩ := (OS.ext GK_ok ho e2).nextG hlk hlt
      have o3 := (OS.ext GK_ok ho e2).fillG (m := n) hlk hlt o2 he.size_le hz
      have E3 := (X2.setCell (p := ⟨gb, k * 2, none⟩) hgw (.int .i64 n)).setCell (p := ⟨gb, k * 2 + 1, none⟩) hgw (.slice a2 xss.length c2)
      have ht : gs.take (k + 1) = gs.take k ++ [(n, xss)] := by rw [List.take_add_one, hx.out]; rfl
      have O4 := Lib.hid (OS.mono o3 (Nat.le_refl _) (C2 := ((w2.setCell ⟨gb, k * 2, none⟩ (.int .i64 n)).setCell ⟨gb, k * 2 + 1, none⟩ (.slice a2 xss.length c2)).heap.size) (by simp))
      rw [← ht] at O4
      clear o3 ho he hM hr1 hr2 CT o2 e2 X2 ht hlk hx hc0 hc1
      go_wp2_with fail
      go_roundw
      case rel => exact ⟨k + 1, by omega, by go_num, O4.out, E3⟩
      case measure => simp [intOf]; omega
    · obtain rfl : k = gs.length := by omega
      rw [List.take_length] at ho
      go_wp2_with fail
      go_ret
      exact ⟨_, _, rfl, ho, he⟩

set_option maxHeartbeats 4000000 in
theorem eqGenerationS_self (a b : Option Addr) (c d : Nat) (gs : List Gn) (w : World) (h : SR GK w a gs) (h' : SR GK w b gs) (hl : gs.length ≤ 1048576) (hr : ∀ g ∈ gs, g.2.length ≤ 1048576 ∧ ∀ xs ∈ g.2, xs.length ≤ 1048576) :
    Calls Try.prog 18 #[.slice a gs.length c, .slice b gs.length d] w (Gives w (.bool true)) := by
  have HR := Lib.hid hr
  have HA := Lib.hid h
  have HB := Lib.hid h'
  clear hr h h'
  go_enter Try.func18, Try.ntmps18
  go_wp2_with fail
  go_loopw [5] (fun i wr => ∃ k : Nat, k ≤ gs.length ∧ i = .int .i64 k ∧ Ext w wr) (fun i _ => gs.length - (intOf i).toNat)
  case atStart => exact ⟨0, Nat.zero_le _, rfl, Ext.refl _⟩
  case round =>
    obtain ⟨k, hk, rfl, he⟩ := hrel
    by_cases hlt : k < gs.length
    · obtain ⟨b1, o1, ra, rc, n, xss, rfl, hb1, hx, hc0, hc1, hM⟩ := (SRG.ext HA.out he).gn hlt
      obtain ⟨b2, o2, sa, sc, n', xss', rfl, hb2, hx', hd0, hd1, hN⟩ := (SRG.ext HB.out he).gn hlt
      obtain ⟨rfl, rfl⟩ : n = n' ∧ xss = xss' := by
        have := hx.out.symm.trans hx'.out
        injection this with this
        injection this with q1 q2
        exact ⟨q1, q2⟩
      obtain ⟨hr1, hr2⟩ := HR.out _ (List.mem_of_getElem? hx.out)
      have i1 : (k : Int) < (gs.length : Int) := by omega
      have x0 : Ext wr wr.drew := (Ext.refl wr).drew
      have CE := eqGeneration_ok n ra rc xss n sa sc xss wr.drew (hM.ext x0) (hN.ext x0) hr1 hr2
      rw [eqB_self] at CE
      replace CE := Lib.hid CE
      have KEEP : Hid (∀ w', Ext wr w' → w'.cell? ⟨b1, o1 + k * 2, none⟩ = some (.int .i64 n) ∧ w'.cell? ⟨b1, o1 + k * 2 + 1, none⟩ = some (.slice ra xss.length rc) ∧ w'.cell? ⟨b2, o2 + k * 2, none⟩ = some (.int .i64 n) ∧ w'.cell? ⟨b2, o2 + k * 2 + 1, none⟩ = some (.slice sa xss.length sc)) := fun w' hE => ⟨hE.cell hc0, hE.cell hc1, hE.cell hd0, hE.cell hd1⟩
      clear hM hN hr1 hr2 hx hx'
      go_wp2_with fail
      go_region_held3 (fun w' => w'.cell? ⟨b1, o1 + k * 2, none⟩ = some (.int .i64 n) ∧ w'.cell? ⟨b1, o1 + k * 2 + 1, none⟩ = some (.slice ra xss.length rc) ∧ w'.cell? ⟨b2, o2 + k * 2, none⟩ = some (.int .i64 n) ∧ w'.cell? ⟨b2, o2 + k * 2 + 1, none⟩ = some (.slice sa xss.length sc))
        (first | exact KEEP.out _ x1 | exact KEEP.out _ x0 | exact KEEP.out _ (Ext.refl _) | go_keep)
        (first | (go_at_call 39; (with_reducible refine CE.out.mono ?_); rintro e v1 ⟨rfl, f1⟩; have x1 := x0.trans f1))
      go_wp2_with fail
      go_roundw
      case rel => exact ⟨k + 1, by omega, by go_num, he.trans x1⟩
      case measure => simp [intOf]; omega
    · obtain rfl : k = gs.length := by omega
      go_wp2_with fail
      go_ret
      exact ⟨rfl, he⟩

set_option maxHeartbeats 1000000 in
theorem markIntSS2_ok (B B2 : Nat) (a : Option Addr) (c : Nat) (xss : List (List Int)) (k : Int) (w : World) (h : OM w B B2 a c xss) (hl : xss.length ≤ 1099511627776) (ht : xss.flatten.length ≤ 1099511627776) (h0 : 0 ≤ k) (h1 : k ≤ 1099511627776) :
    Calls Try.prog 48 #[.slice a xss.length c, .int .i64 k] w fun e w' => e = .returned (.int .i64 (k + tot xss)) ∧ OM w' B B2 a c (upRows k xss) ∧ Span B B2 w w' := by
  go_enter Try.func48, Try.ntmps48
  go_wp2
  go_loopw [1, 5] (fun m i wr => ∃ j : Nat, j ≤ xss.length ∧ i = .int .i64 j ∧ m = .int .i64 (k + (cat xss j).length) ∧ OM wr B B2 a c (markTo k xss j) ∧ Span B B2 w wr) (fun _ i _ => xss.length - (intOf i).toNat)
  case atStart => exact ⟨0, Nat.zero_le _, rfl, by simp [cat_zero], by rw [markTo_zero]; exact h, Span.refl _ _ _⟩
  case round =>
    clear h
    obtain ⟨j, hj, rfl, rfl, ho, hs⟩ := hrel
    have hle := cat_le xss j
    by_cases hlt : j < xss.length
    · obtain ⟨rs, q1, q2, q3⟩ := ho
      have hml := markTo_length k xss j
      have hM : Mat wr a rs (markTo k xss j) := ⟨q3.len, Vals.of_own q1, fun i r xs hr hx => (q3.row i r xs hr hx).vals⟩
      obtain ⟨b, o, ra, rc, xs, rfl, hb, hr, hx, hc, hv⟩ := hM.at_ (k := j) (by omega)
      have hx0 : Hid (xss[j]? = some xs) := by
        have h2 : xss[j]? = some xss[j] := List.getElem?_eq_getElem hlt
        have h3 := markTo_at (k := k) h2
        rw [hx.out] at h3
        injection h3 with h3
        rw [h3]
        exact h2
      have hle' := cat_le xss (j + 1)
      rw [cat_succ hx0.out, List.length_append] at hle'
      have hrow := q3.row j _ _ hr.out hx.out
      obtain ⟨g, g2, r1, r2, r3, r4⟩ := hrow.alone
      clear hM hml
      go_wp2_with fail
      refine (markIntS_ok g g2 ra rc xs _ _ r1 (by omega) (by omega) (by omega)).mono ?_
      rintro e w1 ⟨rfl, n1, n2⟩
      have hkeep : ∀ k, k < wr.heap.size → blockOf ra ≠ some k → w1.heap[k]? = wr.heap[k]? := fun k hk hne => n2.block k hk (by
        rcases Nat.lt_or_ge k g with h | h
        · exact .inl h
        · rcases Nat.lt_or_ge k g2 with h' | h'
          · exact absurd (r2 k h h') hne
          · exact .inr h')
      have hrows := q3.set hr.out (r3 _ _ n1) hkeep
      rw [← markTo_succ hx0.out] at hrows
      have htop : w1.ownsRow B 32 1 (.slice (some ⟨b, o, none⟩) (markTo k xss j).length c) (markTo k xss j).length (RV rs (markTo k xss j)) :=
        ownsRow_of_block q1 fun k' hk' => hkeep k' (ownsRow_block q1 k' hk').2 (fun e => block_ne q1 hrow.1 ints_ne k' hk' e)
      have hO : OM w1 B B2 (some ⟨b, o, none⟩) c (markTo k xss (j + 1)) := by
        refine ⟨rs, ?_, q2, hrows⟩
        rw [markTo_succ hx0.out, RV_set hx.out (upFrom_length _ _), List.length_set]
        exact htop
      have hS := hs.trans (r4 _ n2)
      clear hrows htop hkeep n1 n2 r1 r2 r3 r4 hrow q1 q2 q3
      go_wp2_with fail
      go_roundw
      case rel => exact ⟨j + 1, by omega, by go_num, int_eq (by rw [cat_succ hx0.out, List.length_append]; omega), hO, hS⟩
      case measure => simp [intOf]; omega
    · have E : Hid (cat xss j = xss.flatten) := cat_all (by omega)
      rw [markTo_all (by omega)] at ho
      go_wp2
      go_ret
      exact ⟨ret_int (by rw [E.out]; rfl), ho, hs⟩

set_option maxHeartbeats 4000000 in
theorem markGenerationS_ok (B B2 : Nat) (a : Option Addr) (c : Nat) (gs : List Gn) (k : Int) (w : World) (h : OGs w B B2 a c gs) (hl : gs.length ≤ 1048576) (ht : totG gs ≤ 1048576) (hr : ∀ g ∈ gs, g.2.length ≤ 1048576) (h0 : 0 ≤ k) (h1 : k ≤ 1048576) :
    Calls Try.prog 21 #[.slice a gs.length c, .int .i64 k] w fun e w' => e = .returned (.int .i64 (k + totG gs)) ∧ OGs w' B B2 a c (upGs k gs) ∧ Span B B2 w w' := by
  have HR := Lib.hid hr
  clear hr
  go_enter Try.func21, Try.ntmps21
  go_wp2_with fail
  go_loopw [1, 5] (fun m i wr => ∃ j : Nat, j ≤ gs.length ∧ i = .int .i64 j ∧ m = .int .i64 (k + totG (gs.take j)) ∧ OGs wr B B2 a c (mkG k gs j) ∧ Span B B2 w wr) (fun _ i _ => gs.length - (intOf i).toNat)
  case atStart => exact ⟨0, Nat.zero_le _, rfl, by simp [totG], by rw [mkG_zero]; exact h, Span.refl _ _ _⟩
  case round =>
    clear h
    obtain ⟨j, hj, rfl, rfl, ho, hs⟩ := hrel
    have hle := totG_le gs j
    by_cases hlt : j < gs.length
    · obtain ⟨⟨n, xss⟩, hx0⟩ : ∃ g, gs[j]? = some g := ⟨_, List.getElem?_eq_getElem hlt⟩
      have hml := mkG_length k gs j
      obtain ⟨g, kk, x, lo, hi', rfl, hgs, hBg, hgB, hx, hcell, hfz, hown, hout, hlo, hhi, _, hset⟩ := OS.elem GK_ok ho (i := j) (by omega)
      obtain rfl : x = (n, xss) := by
        have := hx.out
        rw [mkG_at hx0] at this
        injection this with this
        exact this.symm
      obtain ⟨q, hq⟩ : ∃ q : Int, Hid (q = k + totG (gs.take j)) := ⟨_, rfl⟩
      have hle' := totG_le gs (j + 1)
      rw [totG_succ hx0] at hle'
      have hqb : 0 ≤ q ∧ q ≤ 2097152 := by have := hq.out; omega
      have hsucc : Hid (k + (totG (gs.take (j + 1)) : Int) = q + 1 + tot xss) := by rw [hq.out, totG_succ hx0]; exact Lib.hid (by push_cast; omega)
      have o1 := hset 0 (.int .i64 q) (q, xss) (by decide) rfl (fun W hW => hW)
      have c0 : wr.cell? ⟨g, j * 2, none⟩ = some (.int .i64 n) := hcell 0 (by decide)
      have c1 : wr.cell? ⟨g, j * 2 + 1, none⟩ = some (.slice kk.1 xss.length kk.2) := hcell 1 (by decide)
      have f0 := hfz (j * 2)
      have s1 : Span B B2 w (wr.setCell ⟨g, j * 2, none⟩ (.int .i64 q)) := hs.setCell (p := ⟨g, j * 2, none⟩) ⟨hBg, hgB⟩ _
      obtain ⟨W1, hW1⟩ : ∃ W1, W1 = wr.setCell ⟨g, j * 2, none⟩ (.int .i64 q) := ⟨_, rfl⟩
      have o2 : OS GK W1 B B2 (some ⟨g, 0, none⟩) c ((mkG k gs j).set j (q, xss)).length ((mkG k gs j).set j (q, xss)) := by rw [hW1, List.length_set]; exact o1
      obtain ⟨g', kk', x', lo', hi2, hgg, _, _, _, hx2, hcell2, _, hown2, _, hlo2, hhi2, hnext, _⟩ := OS.elem GK_ok o2 (i := j) (by rw [List.length_set]; omega)
      obtain rfl : g = g' := by injection hgg with h1; injection h1
      obtain rfl : x' = (q, xss) := by
        have := hx2.out
        rw [List.getElem?_set_self (by omega)] at this
        injection this with this
        exact this.symm
      have c2 : W1.cell? ⟨g, j * 2 + 1, none⟩ = some (.slice kk'.1 xss.length kk'.2) := hcell2 1 (by decide)
      obtain rfl : kk = kk' := by
        have c3 : W1.cell? ⟨g, j * 2 + 1, none⟩ = some (.slice kk.1 xss.length kk.2) := by
          rw [hW1]
          exact (World.cell?_setCell_other _ _ _ _ (by simp)).trans c1
        rw [c2] at c3
        injection c3 with c3
        injection c3 with e1 e2 e3
        exact (Prod.ext e1 e3).symm
      have hxl : xss.length ≤ 1048576 := HR.out _ (List.mem_of_getElem? hx0)
      change totG (gs.take j) + 1 + tot xss ≤ totG gs at hle'
      have CM := Lib.hid (markIntSS2_ok lo' hi2 kk.1 kk.2 xss (q + 1) W1 hown2 (by omega) (by show tot xss ≤ _; omega) (by omega) (by omega))
      have HN : Hid (∀ w', OM w' lo' hi2 kk.1 kk.2 (upRows (q + 1) xss) → Span lo' hi2 W1 w' → OGs w' B B2 (some ⟨g, 0, none⟩) c (mkG k gs (j + 1)) ∧ Span B B2 w w') := fun w' h1 h2 => by
        have h3 := hnext w' (q, upRows (q + 1) xss) h1 (by show [Value.int .i64 q, Value.slice kk.1 (upRows (q + 1) xss).length kk.2] = [Value.int .i64 q, Value.slice kk.1 xss.length kk.2]; rw [upRows_length]) h2
        have s1' := s1
        rw [← hW1] at s1'
        refine ⟨?_, s1'.trans (h2.mono hlo2 hhi2)⟩
        rw [mkG_succ hx0, ← hq.out]
        rw [List.set_set] at h3
        unfold OGs
        rw [List.length_set] at h3 ⊢
        exact h3
      have htl : tot xss ≤ 1048576 := by omega
      rw [← hq.out]
      clear hnext hcell hcell2 hown hown2 hset o1 o2 ho hs s1 hfz hx hx2 hx0 c2 hgg
      go_wp2_with fail
      rw [← hW1]
      clear hW1 c0 c1 f0
      (with_reducible refine CM.out.mono ?_)
      rintro e w2 ⟨rfl, o3, s3⟩
      obtain ⟨M3, S3⟩ := HN.out _ o3 s3
      clear o3 s3 HN CM
      go_wp2_with fail
      go_roundw
      case rel => exact ⟨j + 1, by omega, by go_num, int_eq hsucc.out.symm, M3, S3⟩
      case measure => simp [intOf]; omega
    · have E : Hid (totG (gs.take j) = totG gs) := by rw [List.take_of_length_le (by omega)]; exact Lib.hid rfl
      rw [mkG_all (by omega)] at ho
      go_wp2_with fail
      go_ret
      exact ⟨ret_int (by rw [E.out]), ho, hs⟩

set_option maxHeartbeats 4000000 in
theorem heldGenerationS_ok (a : Option Addr) (c : Nat) (gs : List Gn) (k : Int) (w : World) (h : SR GK w a (upGs k gs)) (hl : gs.length ≤ 1048576) (hr : ∀ g ∈ gs, g.2.length ≤ 1048576) (ht : k + totG gs ≤ 1048576) (h0 : 0 ≤ k) :
    Calls Try.prog 22 #[.slice a gs.length c, .int .i64 k] w fun e w' => e = .returned (.int .i64 (k + totG gs)) ∧ w = w' := by
  have HR := Lib.hid hr
  clear hr
  go_enter Try.func22, Try.ntmps22
  go_wp2
  go_loop [1, 5] (fun m i => ∃ j : Nat, j ≤ gs.length ∧ i = .int .i64 j ∧ m = .int .i64 (k + totG (gs.take j))) (fun _ i => gs.length - (intOf i).toNat)
  case atStart => exact ⟨0, Nat.zero_le _, rfl, by simp [totG]⟩
  case round =>
    obtain ⟨j, hj, rfl, rfl⟩ := hrel
    have hle := totG_le gs j
    by_cases hlt : j < gs.length
    · obtain ⟨⟨n0, xss0⟩, hx0⟩ : ∃ g, gs[j]? = some g := ⟨_, List.getElem?_eq_getElem hlt⟩
      obtain ⟨b, o, ra, rc, n, xss, rfl, hb, hx, hc0, hc1, hM⟩ := h.gn (k := j) (by rw [upGs_length]; exact hlt)
      obtain ⟨q, hq⟩ : ∃ q : Int, Hid (q = k + totG (gs.take j)) := ⟨_, rfl⟩
      obtain ⟨rfl, rfl⟩ : n = q ∧ xss = upRows (q + 1) xss0 := by
        have := hx.out
        rw [upGs_get hx0, ← hq.out] at this
        injection this with this
        injection this with q1 q2
        exact ⟨q1.symm, q2.symm⟩
      have hle' := totG_le gs (j + 1)
      rw [totG_succ hx0] at hle'
      have hr1 : xss0.length ≤ 1048576 := HR.out _ (List.mem_of_getElem? hx0)
      change totG (gs.take j) + 1 + tot xss0 ≤ totG gs at hle'
      have CH := Lib.hid (heldIntSS_ok ra rc xss0 (n + 1) w hM (by omega) (by show tot xss0 ≤ _; omega) (by have := hq.out; omega) (by have := hq.out; omega))
      have hsucc : Hid (k + (totG (gs.take (j + 1)) : Int) = n + 1 + tot xss0) := by rw [hq.out, totG_succ hx0]; exact Lib.hid (by push_cast; omega)
      have hnb : 0 ≤ n ∧ n ≤ 2097152 := by have := hq.out; omega
      have ht0 : tot xss0 ≤ 2097152 := by omega
      rw [upRows_length] at hc1
      rw [← hq.out]
      clear hx hx0 hM
      go_wp2_with (go_at_call 98; (with_reducible refine CH.out.mono ?_); rintro e w' ⟨rfl, rfl⟩)
      go_round
      case rel => exact ⟨j + 1, by omega, by go_num, int_eq hsucc.out.symm⟩
      case measure => simp [intOf]; omega
    · have E : Hid (totG (gs.take j) = totG gs) := by rw [List.take_of_length_le (by omega)]; exact Lib.hid rfl
      go_wp2
      go_ret
      exact ⟨ret_int (by rw [E.out]), rfl⟩

end Go.Proofs.Ytkegknophppdgaa
