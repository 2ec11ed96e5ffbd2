/- The law's helpers over slices of packets: copies, comparisons, marks, sizes. -/
import Derived.Test.YtkegknophppdgaaGns
import Derived.Test.YtkegknophppdgaaEncPk
import Derived.Deep.RegionHeld3
namespace Go.Proofs.Ytkegknophppdgaa
open Go.RowKit
set_option linter.unusedVariables false
set_option maxRecDepth 20000

/-- Slices of packets, owned. -/
def OPs (w : World) (B B2 : Nat) (a : Option Addr) (c : Nat) (ps : List Pk) : Prop := OS PK w B B2 a c ps.length ps
def SRp (w : World) (a : Option Addr) (ps : List Pk) : Prop := SR PK w a ps
section
variable {w w' : World} {B B2 C C2 c : Nat} {a : Option Addr} {ps : List Pk}
theorem OPs.reads (h : OPs w B B2 a c ps) : SRp w a ps := OS.reads PK_ok h
theorem OPs.ext (h : OPs w B B2 a c ps) (he : Ext w w') : OPs w' B B2 a c ps := OS.ext PK_ok h he
theorem OPs.span (h : OPs w B B2 a c ps) (hs : Span C C2 w w') (hd : B2 ≤ C ∨ C2 ≤ B) : OPs w' B B2 a c ps := OS.span PK_ok h hs hd
theorem OPs.mono (h : OPs w B B2 a c ps) (h1 : C ≤ B) (h2 : B2 ≤ C2) : OPs w C C2 a c ps := OS.mono h h1 h2
theorem SRp.ext (h : SRp w a ps) (he : Ext w w') : SRp w' a ps := SR.ext PK_ok h he
end
def NewPs (w : World) (ps : List Pk) (e : Ending) (w' : World) : Prop := ∃ a c, e = .returned (.slice a ps.length c) ∧ OPs w' w.heap.size w'.heap.size a c ps ∧ Ext w w'

/-- How much a packet holds. -/
def pkN (p : Pk) : Nat := p.2.1.length + p.2.2.length
def totP : List Pk → Nat
  | [] => 0
  | p :: r => 1 + pkN p + totP r
theorem totP_app (a b : List Pk) : totP (a ++ b) = totP a + totP b := by
  induction a with
  | nil => simp [totP]
  | cons g r ih => simp only [List.cons_append, totP, ih]; omega
theorem totP_succ {ps : List Pk} {k : Nat} {p : Pk} (h : ps[k]? = some p) : totP (ps.take (k + 1)) = totP (ps.take k) + 1 + pkN p := by
  rw [List.take_add_one, h, totP_app]
  simp [totP]
  omega
theorem totP_le (ps : List Pk) (k : Nat) : totP (ps.take k) ≤ totP ps := by
  have : totP ps = totP (ps.take k) + totP (ps.drop k) := by rw [← totP_app, List.take_append_drop]
  omega
def upP (k : Int) (p : Pk) : Pk := (k, upFrom (k + 1) p.2.1.length, upFrom (k + 1 + p.2.1.length) p.2.2.length)
def upPs (k : Int) : List Pk → List Pk
  | [] => []
  | p :: r => upP k p :: upPs (k + 1 + pkN p) r
theorem upPs_length (k : Int) (ps : List Pk) : (upPs k ps).length = ps.length := by
  induction ps generalizing k with
  | nil => rfl
  | cons p r ih => simp [upPs, ih]
theorem upPs_get {k : Int} {ps : List Pk} {i : Nat} {p : Pk} (h : ps[i]? = some p) : (upPs k ps)[i]? = some (upP (k + totP (ps.take i)) p) := by
  induction ps generalizing k i with
  | nil => simp at h
  | cons x r ih =>
    cases i with
    | zero =>
      simp at h
      subst h
      simp [upPs, totP]
    | succ i =>
      simp at h
      simp only [upPs, List.getElem?_cons_succ, List.take_succ_cons, totP]
      rw [ih h]
      congr 2
      push_cast
      omega
/-- The first i packets are marked. -/
def mkP (k : Int) (ps : List Pk) (i : Nat) : List Pk := (upPs k ps).take i ++ ps.drop i
theorem mkP_zero (k : Int) (ps : List Pk) : mkP k ps 0 = ps := by simp [mkP]
theorem mkP_all {k : Int} {ps : List Pk} {i : Nat} (h : ps.length ≤ i) : mkP k ps i = upPs k ps := by
  simp only [mkP]
  rw [List.drop_eq_nil_of_le h, List.append_nil, List.take_of_length_le (by rw [upPs_length]; exact h)]
theorem mkP_length (k : Int) (ps : List Pk) (i : Nat) : (mkP k ps i).length = ps.length := by
  simp [mkP, upPs_length]
  omega
theorem mkP_at {k : Int} {ps : List Pk} {i : Nat} {p : Pk} (h : ps[i]? = some p) : (mkP k ps i)[i]? = some p := by
  have hi := (List.getElem?_eq_some_iff.1 h).1
  have hl : ((upPs k ps).take i).length = i := by rw [List.length_take, upPs_length]; omega
  rw [mkP, List.getElem?_append_right (by omega), hl, List.getElem?_drop]
  simpa using h
theorem mkP_succ {k : Int} {ps : List Pk} {i : Nat} {p : Pk} (h : ps[i]? = some p) : mkP k ps (i + 1) = (mkP k ps i).set i (upP (k + totP (ps.take i)) p) := by
  have hi := (List.getElem?_eq_some_iff.1 h).1
  have hl : ((upPs k ps).take i).length = i := by rw [List.length_take, upPs_length]; omega
  rw [mkP, mkP, List.set_append_right _ _ (by omega), hl, Nat.sub_self, List.drop_eq_getElem_cons hi, List.set_cons_zero, List.take_add_one, upPs_get h]
  simp

/-- What is left behind the packets' sizes. -/
def szPl : List Pk → Int → Int
  | [], l => l
  | p :: r, l => if szPk p.2.1 p.2.2 l < 0 then -1 else szPl r (szPk p.2.1 p.2.2 l)
def szPs (ps : List Pk) (left : Int) : Int := if left - ps.length < 0 then -1 else szPl ps (left - ps.length)
/-- What the packets hold. -/
def sumP : List Pk → Nat
  | [] => 0
  | p :: r => pkN p + sumP r
theorem szPl_eq : ∀ {ps : List Pk} {l : Int}, 0 ≤ l → 0 ≤ szPl ps l → (sumP ps : Int) ≤ l ∧ szPl ps l = l - sumP ps
  | [], l, h, _ => by simpa [sumP, szPl] using h
  | p :: r, l, h, h2 => by
    simp only [szPl] at h2 ⊢
    split at h2
    · omega
    · rename_i hn
      rw [if_neg hn]
      have h3 := szPk_le (Int.not_lt.1 hn)
      have h4 := szPl_eq (Int.not_lt.1 hn) h2
      simp only [sumP, pkN]
      omega
theorem szPs_le {ps : List Pk} {left : Int} (h : 0 ≤ szPs ps left) : (ps.length : Int) + sumP ps ≤ left ∧ szPs ps left = left - ps.length - sumP ps := by
  unfold szPs at h ⊢
  split at h
  · omega
  · rename_i hn
    rw [if_neg hn]
    have := szPl_eq (ps := ps) (l := left - ps.length) (by omega) h
    omega
theorem sumP_mem : ∀ {ps : List Pk} {p : Pk}, p ∈ ps → p.2.1.length + p.2.2.length ≤ sumP ps
  | [], p, h => by simp at h
  | x :: r, p, h => by
    rcases List.mem_cons.1 h with rfl | h
    · simp only [sumP, pkN]; omega
    · have := sumP_mem h
      simp only [sumP]
      omega
theorem totP_sum : ∀ (ps : List Pk), totP ps ≤ ps.length + sumP ps
  | [] => by simp [totP]
  | p :: r => by
    have := totP_sum r
    simp only [totP, sumP, List.length_cons]
    omega

set_option maxHeartbeats 4000000 in
theorem szCodedPacketS_ok (a : Option Addr) (c : Nat) (ps : List Pk) (left : Int) (w : World) (h : SRp w a ps) (hm : ps.length ≤ maxLen) (hr : ∀ p ∈ ps, p.2.1.length ≤ maxLen ∧ p.2.2.length ≤ maxLen) (h0 : 0 ≤ left) (h1 : left ≤ 1048576) :
    Calls Try.prog 23 #[.slice a ps.length c, .int .i64 left] w (Gives w (.int .i64 (szPs ps left))) := by
  unfold maxLen at hm
  have HR := Lib.hid hr
  have HA := Lib.hid h
  clear hr h
  by_cases hn : left - ps.length < 0
  · have HS : Hid (szPs ps left = -1) := by unfold szPs; rw [if_pos hn]; exact Lib.hid rfl
    rw [HS.out]
    go_enter Try.func23, Try.ntmps23
    go_wp2
    go_ret
    exact ⟨rfl, Ext.refl _⟩
  · have HS : Hid (szPs ps left = szPl ps (left - ps.length)) := by unfold szPs; rw [if_neg hn]; exact Lib.hid rfl
    rw [HS.out]
    have hn' : 0 ≤ left - ps.length := by omega
    go_enter Try.func23, Try.ntmps23
    go_wp2
    go_loopw [1, 5] (fun l i wr => ∃ (k : Nat) (L : Int), k ≤ ps.length ∧ i = .int .i64 k ∧ l = .int .i64 L ∧ (0 ≤ L ∧ L ≤ 1048576) ∧ Hid (szPl ps (left - ps.length) = szPl (ps.drop k) L) ∧ Ext w wr) (fun _ i _ => ps.length - (intOf i).toNat)
    case atStart => exact ⟨0, _, Nat.zero_le _, rfl, rfl, ⟨hn', by omega⟩, rfl, Ext.refl _⟩
    case round =>
      obtain ⟨k, L, hk, rfl, rfl, ⟨hL0, hL1⟩, HL, he⟩ := hrel
      by_cases hlt : k < ps.length
      · obtain ⟨b, o, ra, rc, sa, sc, n, xs, ys, rfl, hb, hx, hc0, hc1, hc2, hM, hN⟩ := SR.pk (HA.out.ext he) hlt
        obtain ⟨hr1, hr2⟩ := HR.out _ (List.mem_of_getElem? hx.out)
        have i1 : (k : Int) < (ps.length : Int) := by omega
        have CS := szCodedPacket_ok n ra rc xs sa sc ys L wr hr1 hr2 hL0 hL1
        have hdr : ps.drop k = (n, xs, ys) :: ps.drop (k + 1) := by
          obtain ⟨hk2, he2⟩ := List.getElem?_eq_some_iff.1 hx.out
          rw [List.drop_eq_getElem_cons hk2, he2]
        obtain ⟨L', hL'⟩ : ∃ L', Hid (L' = szPk xs ys L) := ⟨_, rfl⟩
        rw [← hL'.out] at CS
        replace CS := Lib.hid CS
        by_cases hs : L' < 0
        · have HV : Hid (szPl ps (left - ps.length) = -1) := by
            rw [HL.out, hdr]
            show (if szPk xs ys L < 0 then -1 else _) = (-1 : Int)
            rw [← hL'.out, if_pos hs]
          clear hM hN hr1 hr2 hx hdr
          go_wp2_with fail
          (with_reducible refine CS.out.mono ?_)
          rintro e w2 ⟨rfl, e2⟩
          go_wp2_with fail
          go_ret
          exact ⟨ret_int HV.out.symm, he.trans e2⟩
        · have hle := szPk_le (xs := xs) (ys := ys) (left := L) (by rw [← hL'.out]; omega)
          have hL2 : 0 ≤ L' ∧ L' ≤ 1048576 := by rw [hL'.out]; omega
          have HL2 : Hid (szPl ps (left - ps.length) = szPl (ps.drop (k + 1)) L') := by
            rw [HL.out, hdr]
            show (if szPk xs ys L < 0 then -1 else szPl (ps.drop (k + 1)) (szPk xs ys L)) = _
            rw [← hL'.out, if_neg hs]
          clear hM hN hr1 hr2 hx hdr hle
          go_wp2_with fail
          (with_reducible refine CS.out.mono ?_)
          rintro e w2 ⟨rfl, e2⟩
          have E2 := he.trans e2
          clear e2 he
          go_wp2_with fail
          go_roundw
          case rel => exact ⟨k + 1, L', by omega, by go_num, rfl, hL2, HL2, E2⟩
          case measure => simp [intOf]; omega
      · obtain rfl : k = ps.length := by omega
        rw [List.drop_length] at HL
        go_wp2_with fail
        go_ret
        exact ⟨ret_int (by rw [HL.out]; rfl), he⟩

set_option maxHeartbeats 4000000 in
theorem toCodedPacketS_ok (a : Option Addr) (c : Nat) (ps : List Pk) (w : World) (h : SRp w a ps) (hl : ps.length ≤ 1048576) (hr : ∀ p ∈ ps, p.2.1.length ≤ 1048576 ∧ p.2.2.length ≤ 1048576) :
    Calls Try.prog 25 #[.slice a ps.length c] w (NewPs w ps) := by
  have HR := Lib.hid hr
  have HA := Lib.hid h
  obtain ⟨i, hi, hz0, hz1, hz2⟩ := info_parts infoPk
  clear hr h
  go_enter Try.func25, Try.ntmps25
  go_wp2_with (at_make; refine wpList_make_full _ rfl _ _ 38 rfl w.heap.size 35 i _ 3 Try.underlying38 hi hz0 hz1 _ _ _ _ ps.length rfl rfl rfl rfl ?b1 ?b2 (Nat.le_refl _) ?_)
  case b1 => rw [hz2]; omega
  case b2 => unfold maxLen; omega
  intro u1 hown hgrow
  have hmz : (madeCells #[.int .i64 0, .slice none 0 0, .slice none 0 0] (ps.length * 3)).toList = zers PK ps.length := made_zers PK_ok _ rfl _
  obtain ⟨gb, hgb⟩ : ∃ gb, gb = w.heap.size := ⟨_, rfl⟩
  rw [hmz, ← hgb] at hown
  rw [← hgb]
  have e1 := (Ext.refl w).grown hgrow (by simp)
  have hzu : gb < u1.heap.size := (ownsRow_blockS hown gb rfl).2
  have o1 : OS PK u1 w.heap.size u1.heap.size (some ⟨gb, 0, none⟩) ps.length ps.length (ps.take 0) := by
    refine ⟨[], [], rfl, rfl, by simp, ?_, fun k hk => ?_, fun i h r x hh => by simp at hh, fun i j r s _ hr => by simp at hr⟩
    · rw [← hgb, show flat PK [] (ps.take 0) ++ zers PK (ps.length - (ps.take 0).length) = zers PK ps.length by simp [flat]]
      exact hown
    · have : gb = k := by simpa [blockOf] using hk
      subst this
      exact ⟨hzu, fun i r hr => by simp at hr⟩
  have hgw : w.heap.size ≤ gb := by omega
  clear hown hgrow hmz hgb hzu
  go_wp2_with fail
  go_loopw [4] (fun i wr => ∃ k : Nat, k ≤ ps.length ∧ i = .int .i64 k ∧ OS PK wr w.heap.size wr.heap.size (some ⟨gb, 0, none⟩) ps.length ps.length (ps.take k) ∧ Ext w wr) (fun i _ => ps.length - (intOf i).toNat)
  case atStart => exact ⟨0, Nat.zero_le _, rfl, o1, e1⟩
  case round =>
    clear o1 e1
    obtain ⟨k, hk, rfl, ho, he⟩ := hrel
    by_cases hlt : k < ps.length
    · obtain ⟨b, o, ra, rc, sa, sc, n, xs, ys, rfl, hb, hx, hc0, hc1, hc2, hM, hN⟩ := SR.pk (HA.out.ext he) hlt
      obtain ⟨hr1, hr2⟩ := HR.out _ (List.mem_of_getElem? hx.out)
      have i1 : (k : Int) < (ps.length : Int) := by omega
      have CT := Lib.hid (toCodedPacket_ok n ra rc xs sa sc ys wr hM hN hr1 hr2)
      go_wp2_with fail
      (with_reducible refine CT.out.mono ?_)
      rintro e w2 ⟨a2, c2, b2, d2, rfl, p2, q2, ap2, e2⟩
      have o2 := OPk.of p2 q2 ap2
      have X2 := he.trans e2
      have hz := e2.size_le
      have hlk : (ps.take k).length = k := by rw [List.length_take]; omega
      obtain ⟨n0, n1, n2, n3, n4, n5⟩ := (OS.ext PK_ok ho e2).nextP hlk hlt
      have o3 := (OS.ext PK_ok ho e2).fillP (m := n) hlk hlt o2 he.size_le hz
      have E3 := ((X2.setCell (p := ⟨gb, k * 3, none⟩) hgw (.int .i64 n)).setCell (p := ⟨gb, k * 3 + 1, none⟩) hgw (.slice a2 xs.length c2)).setCell (p := ⟨gb, k * 3 + 2, none⟩) hgw (.slice b2 ys.length d2)
      have ht : ps.take (k + 1) = ps.take k ++ [(n, xs, ys)] := by rw [List.take_add_one, hx.out]; rfl
      have O4 := Lib.hid (OS.mono o3 (Nat.le_refl _) (C2 := (((w2.setCell ⟨gb, k * 3, none⟩ (.int .i64 n)).setCell ⟨gb, k * 3 + 1, none⟩ (.slice a2 xs.length c2)).setCell ⟨gb, k * 3 + 2, none⟩ (.slice b2 ys.length d2)).heap.size) (by simp))
      rw [← ht] at O4
      clear o3 ho he hM hN hr1 hr2 CT o2 e2 X2 ht hlk hx hc0 hc1 hc2 p2 q2
      go_wp2_with fail
      go_roundw
      case rel => exact ⟨k + 1, by omega, by go_num, O4.out, E3⟩
      case measure => simp [intOf]; omega
    · obtain rfl : k = ps.length := by omega
      rw [List.take_length] at ho
      go_wp2_with fail
      go_ret
      exact ⟨_, _, rfl, ho, he⟩

set_option maxHeartbeats 4000000 in
theorem eqCodedPacketS_self (a b : Option Addr) (c d : Nat) (ps : List Pk) (w : World) (h : SRp w a ps) (h' : SRp w b ps) (hl : ps.length ≤ 1048576) (hr : ∀ p ∈ ps, p.2.1.length ≤ 1048576 ∧ p.2.2.length ≤ 1048576) :
    Calls Try.prog 29 #[.slice a ps.length c, .slice b ps.length d] w (Gives w (.bool true)) := by
  have HR := Lib.hid hr
  have HA := Lib.hid h
  have HB := Lib.hid h'
  clear hr h h'
  go_enter Try.func29, Try.ntmps29
  go_wp2_with fail
  go_loopw [5] (fun i wr => ∃ k : Nat, k ≤ ps.length ∧ i = .int .i64 k ∧ Ext w wr) (fun i _ => ps.length - (intOf i).toNat)
  case atStart => exact ⟨0, Nat.zero_le _, rfl, Ext.refl _⟩
  case round =>
    obtain ⟨k, hk, rfl, he⟩ := hrel
    by_cases hlt : k < ps.length
    · obtain ⟨b1, o1, ra, rc, sa, sc, n, xs, ys, rfl, hb1, hx, hc0, hc1, hc2, hM, hN⟩ := SR.pk (HA.out.ext he) hlt
      obtain ⟨b2, o2, ta, tc, ua, uc, n', xs', ys', rfl, hb2, hx', hd0, hd1, hd2, hM', hN'⟩ := SR.pk (HB.out.ext he) hlt
      obtain ⟨rfl, rfl, rfl⟩ : n = n' ∧ xs = xs' ∧ ys = ys' := by
        have := hx.out.symm.trans hx'.out
        injection this with this
        injection this with q1 q2
        injection q2 with q2 q3
        exact ⟨q1, q2, q3⟩
      obtain ⟨hr1, hr2⟩ := HR.out _ (List.mem_of_getElem? hx.out)
      have i1 : (k : Int) < (ps.length : Int) := by omega
      have x0 : Ext wr wr.drew := (Ext.refl wr).drew
      have CE := eqCodedPacket_ok n ra rc xs sa sc ys n ta tc xs ua uc ys wr.drew (hM.ext x0) (hN.ext x0) (hM'.ext x0) (hN'.ext x0) hr1 hr2
      rw [eqPk_self] at CE
      replace CE := Lib.hid CE
      have KEEP : Hid (∀ w', Ext wr w' → w'.cell? ⟨b1, o1 + k * 3, none⟩ = some (.int .i64 n) ∧ w'.cell? ⟨b1, o1 + k * 3 + 1, none⟩ = some (.slice ra xs.length rc) ∧ w'.cell? ⟨b1, o1 + k * 3 + 2, none⟩ = some (.slice sa ys.length sc) ∧ w'.cell? ⟨b2, o2 + k * 3, none⟩ = some (.int .i64 n) ∧ w'.cell? ⟨b2, o2 + k * 3 + 1, none⟩ = some (.slice ta xs.length tc) ∧ w'.cell? ⟨b2, o2 + k * 3 + 2, none⟩ = some (.slice ua ys.length uc)) := fun w' hE => ⟨hE.cell hc0, hE.cell hc1, hE.cell hc2, hE.cell hd0, hE.cell hd1, hE.cell hd2⟩
      clear hM hN hM' hN' hr1 hr2 hx hx'
      go_wp2_with fail
      go_region_held3 (fun w' => w'.cell? ⟨b1, o1 + k * 3, none⟩ = some (.int .i64 n) ∧ w'.cell? ⟨b1, o1 + k * 3 + 1, none⟩ = some (.slice ra xs.length rc) ∧ w'.cell? ⟨b1, o1 + k * 3 + 2, none⟩ = some (.slice sa ys.length sc) ∧ w'.cell? ⟨b2, o2 + k * 3, none⟩ = some (.int .i64 n) ∧ w'.cell? ⟨b2, o2 + k * 3 + 1, none⟩ = some (.slice ta xs.length tc) ∧ w'.cell? ⟨b2, o2 + k * 3 + 2, none⟩ = some (.slice ua ys.length uc))
        (first | exact KEEP.out _ x1 | exact KEEP.out _ x0 | exact KEEP.out _ (Ext.refl _) | go_keep)
        (first | (go_at_call 28; (with_reducible refine CE.out.mono ?_); rintro e v1 ⟨rfl, f1⟩; have x1 := x0.trans f1))
      go_wp2_with fail
      go_roundw
      case rel => exact ⟨k + 1, by omega, by go_num, he.trans x1⟩
      case measure => simp [intOf]; omega
    · obtain rfl : k = ps.length := by omega
      go_wp2_with fail
      go_ret
      exact ⟨rfl, he⟩

set_option maxHeartbeats 4000000 in
theorem markCodedPacketS_ok (B B2 : Nat) (a : Option Addr) (c : Nat) (ps : List Pk) (k : Int) (w : World) (h : OPs w B B2 a c ps) (hl : ps.length ≤ 1048576) (ht : totP ps ≤ 1048576) (h0 : 0 ≤ k) (h1 : k ≤ 1048576) :
    Calls Try.prog 31 #[.slice a ps.length c, .int .i64 k] w fun e w' => e = .returned (.int .i64 (k + totP ps)) ∧ OPs w' B B2 a c (upPs k ps) ∧ Span B B2 w w' := by
  go_enter Try.func31, Try.ntmps31
  go_wp2_with fail
  go_loopw [1, 5] (fun m i wr => ∃ j : Nat, j ≤ ps.length ∧ i = .int .i64 j ∧ m = .int .i64 (k + totP (ps.take j)) ∧ OPs wr B B2 a c (mkP k ps j) ∧ Span B B2 w wr) (fun _ i _ => ps.length - (intOf i).toNat)
  case atStart => exact ⟨0, Nat.zero_le _, rfl, by simp [totP], by rw [mkP_zero]; exact h, Span.refl _ _ _⟩
  case round =>
    clear h
    obtain ⟨j, hj, rfl, rfl, ho, hs⟩ := hrel
    have hle := totP_le ps j
    by_cases hlt : j < ps.length
    · obtain ⟨⟨n, xs, ys⟩, hx0⟩ : ∃ p, ps[j]? = some p := ⟨_, List.getElem?_eq_getElem hlt⟩
      have hml := mkP_length k ps j
      obtain ⟨g, kk, x, lo, hi', rfl, hgs, hBg, hgB, hx, hcell, hfz, hown, hout, hlo, hhi, _, hset⟩ := OS.elem PK_ok ho (i := j) (by omega)
      obtain rfl : x = (n, xs, ys) := by
        have := hx.out
        rw [mkP_at hx0] at this
        injection this with this
        exact this.symm
      obtain ⟨q, hq⟩ : ∃ q : Int, Hid (q = k + totP (ps.take j)) := ⟨_, rfl⟩
      have hle' := totP_le ps (j + 1)
      rw [totP_succ hx0] at hle'
      have hqb : 0 ≤ q ∧ q ≤ 2097152 := by have := hq.out; omega
      have hsucc : Hid (k + (totP (ps.take (j + 1)) : Int) = q + 1 + xs.length + ys.length) := by rw [hq.out, totP_succ hx0]; exact Lib.hid (by simp only [pkN]; push_cast; omega)
      have o1 := hset 0 (.int .i64 q) (q, xs, ys) (by decide) rfl (fun W hW => hW)
      have c0 : wr.cell? ⟨g, j * 3, none⟩ = some (.int .i64 n) := hcell 0 (by decide)
      have c1 : wr.cell? ⟨g, j * 3 + 1, none⟩ = some (.slice kk.1.1 xs.length kk.1.2) := hcell 1 (by decide)
      have c2 : wr.cell? ⟨g, j * 3 + 2, none⟩ = some (.slice kk.2.1 ys.length kk.2.2) := hcell 2 (by decide)
      have f0 := hfz (j * 3)
      have s1 : Span B B2 w (wr.setCell ⟨g, j * 3, none⟩ (.int .i64 q)) := hs.setCell (p := ⟨g, j * 3, none⟩) ⟨hBg, hgB⟩ _
      obtain ⟨W1, hW1⟩ : ∃ W1, W1 = wr.setCell ⟨g, j * 3, none⟩ (.int .i64 q) := ⟨_, rfl⟩
      have o2 : OS PK W1 B B2 (some ⟨g, 0, none⟩) c ((mkP k ps j).set j (q, xs, ys)).length ((mkP k ps j).set j (q, xs, ys)) := by rw [hW1, List.length_set]; exact o1
      obtain ⟨g', kk', x', lo', hi2, hgg, _, _, _, hx2, hcell2, _, hown2, hout2, hlo2, hhi2, hnext, _⟩ := OS.elem PK_ok o2 (i := j) (by rw [List.length_set]; omega)
      obtain rfl : g = g' := by injection hgg with h1; injection h1
      obtain rfl : x' = (q, xs, ys) := by
        have := hx2.out
        rw [List.getElem?_set_self (by omega)] at this
        injection this with this
        exact this.symm
      have c3 : W1.cell? ⟨g, j * 3 + 1, none⟩ = some (.slice kk'.1.1 xs.length kk'.1.2) := hcell2 1 (by decide)
      have c4 : W1.cell? ⟨g, j * 3 + 2, none⟩ = some (.slice kk'.2.1 ys.length kk'.2.2) := hcell2 2 (by decide)
      obtain rfl : kk = kk' := by
        have d3 : W1.cell? ⟨g, j * 3 + 1, none⟩ = some (.slice kk.1.1 xs.length kk.1.2) := by
          rw [hW1]
          exact (World.cell?_setCell_other _ _ _ _ (by simp)).trans c1
        have d4 : W1.cell? ⟨g, j * 3 + 2, none⟩ = some (.slice kk.2.1 ys.length kk.2.2) := by
          rw [hW1]
          exact (World.cell?_setCell_other _ _ _ _ (by simp)).trans c2
        rw [c3] at d3
        rw [c4] at d4
        injection d3 with d3
        injection d3 with e1 e2 e3
        injection d4 with d4
        injection d4 with e4 e5 e6
        exact (Prod.ext (Prod.ext e1 e3) (Prod.ext e4 e6)).symm
      change totP (ps.take j) + 1 + (xs.length + ys.length) ≤ totP ps at hle'
      have hgW : g < W1.heap.size := by rw [hW1]; simpa using hgs
      obtain ⟨L, R, ap⟩ : OPk W1 lo' hi2 kk.1.1 kk.1.2 xs kk.2.1 kk.2.2 ys := hown2
      obtain ⟨y1, y2, q1, q2, q3, q4⟩ := L.alone
      have CM := Lib.hid (markIntS_ok y1 y2 kk.1.1 kk.1.2 xs (q + 1) W1 q1 (by omega) (by omega) (by omega))
      have HN : Hid (∀ w', OPk w' lo' hi2 kk.1.1 kk.1.2 (upFrom (q + 1) xs.length) kk.2.1 kk.2.2 (upFrom (q + 1 + xs.length) ys.length) → Span lo' hi2 W1 w' → OPs w' B B2 (some ⟨g, 0, none⟩) c (mkP k ps (j + 1)) ∧ Span B B2 w w') := fun w' h1 h2 => by
        have h3 := hnext w' (q, upFrom (q + 1) xs.length, upFrom (q + 1 + xs.length) ys.length) h1 (by show [Value.int .i64 q, Value.slice kk.1.1 (upFrom (q + 1) xs.length).length kk.1.2, Value.slice kk.2.1 (upFrom (q + 1 + xs.length) ys.length).length kk.2.2] = [Value.int .i64 q, Value.slice kk.1.1 xs.length kk.1.2, Value.slice kk.2.1 ys.length kk.2.2]; rw [upFrom_length, upFrom_length]) h2
        have s1' := s1
        rw [← hW1] at s1'
        refine ⟨?_, s1'.trans (h2.mono hlo2 hhi2)⟩
        rw [mkP_succ hx0, ← hq.out]
        rw [List.set_set] at h3
        unfold OPs
        rw [List.length_set] at h3 ⊢
        exact h3
      rw [← hq.out]
      clear hnext hcell hcell2 hown hset o1 o2 ho hs s1 hfz hx hx2 hx0 hgg
      have HO := Lib.hid hout2
      clear hout hout2
      have HC := Lib.hid c4
      clear c3 c4
      go_wp2_with fail
      rw [← hW1]
      clear hW1 c0 c1 c2 f0
      (with_reducible refine CM.out.mono ?_)
      rintro e w2 ⟨rfl, n1, n2⟩
      have S1 := q4 _ n2
      have c5 : w2.cell? ⟨g, j * 3 + 2, none⟩ = some (.slice kk.2.1 ys.length kk.2.2) := S1.cell HC.out HO.out
      have R1 := R.keep n2 q2 ap
      have L1 := q3 _ _ n1
      obtain ⟨f, f2, p1, p2, p3, p4⟩ := R1.alone
      have CM2 := Lib.hid (markIntS_ok f f2 kk.2.1 kk.2.2 ys (q + 1 + xs.length) w2 p1 (by omega) (by omega) (by omega))
      have HP := Lib.hid (And.intro p2 (And.intro p3 p4))
      clear p2 p3 p4 p1 R1 n1 n2 q1 q2 q3 q4 CM
      go_wp2_with fail
      (with_reducible refine CM2.out.mono ?_)
      rintro e w3 ⟨rfl, o3, s3⟩
      obtain ⟨p2, p3, p4⟩ := HP.out
      obtain ⟨M3, S3⟩ := HN.out _ ⟨L1.keep s3 p2 ap.symm, p3 _ _ o3, ap⟩ (S1.trans (p4 _ s3))
      clear o3 s3 HN CM2 p2 p3 p4 HP L1 S1 HC HO L R
      go_wp2_with fail
      go_roundw
      case rel => exact ⟨j + 1, by omega, by go_num, int_eq hsucc.out.symm, M3, S3⟩
      case measure => simp [intOf]; omega
    · have E : Hid (totP (ps.take j) = totP ps) := by rw [List.take_of_length_le (by omega)]; exact Lib.hid rfl
      rw [mkP_all (by omega)] at ho
      go_wp2_with fail
      go_ret
      exact ⟨ret_int (by rw [E.out]), ho, hs⟩

end Go.Proofs.Ytkegknophppdgaa
