/- Draws of matrices: contracts of l6Matrix, l6Any, l6One. -/
import Derived.Test.YtkegknophppdgaaDrw
import Derived.Test.YtkegknophppdgaaFld
import Derived.Deep.RegionLaw
namespace Go.Proofs.Ytkegknophppdgaa
open Go.RowKit
set_option linter.unusedVariables false
set_option maxRecDepth 20000

def DrM (g : Nat) (a : Option Addr) (c : Nat) (bs : List Int) (P : List (List Int) → Prop) (w : World) (e : Ending) (w' : World) : Prop :=
  ∃ a2 c2 xss, e = .returned (.slice a2 xss.length c2) ∧ P xss ∧ OM w' w.heap.size w'.heap.size a2 c2 xss ∧ Cur w' g a c bs ∧ Span g (g + 1) w w'

theorem VR.push {n : Nat} {xss : List (List Int)} {xs : List Int} (h : VR n xss) (h1 : AllEl xs) (h2 : xs.length = n) (hn : n ≤ 40) : VR n (xss ++ [xs]) := fun ys hy => by
  rcases List.mem_append.1 hy with hy | hy
  · exact h ys hy
  · rw [List.mem_singleton.1 hy]
    exact ⟨validV_true.2 ⟨h1, by omega⟩, h2⟩

set_option maxHeartbeats 4000000 in
set_option maxRecDepth 100000 in
theorem l6Matrix_ok (g : Nat) (a : Option Addr) (c : Nat) (bs : List Int) (n m : Nat) (w : World) (h : Cur w g a c bs) (hn : n ≤ 1000) (hm : m ≤ 40) :
    Calls Try.prog 160 #[curV g, .int .i64 n, .int .i64 m] w (DrM g a c bs (fun xss => xss.length = n ∧ VR m xss) w) := by
  have hg := h.lt
  have o0 := OM.new0 w
  have k0 := h.ext ((Ext.refl w).alloc (.cells #[] 32))
  have s0 := (Span.refl g (g + 1) w).alloc (.cells #[] 32)
  have O0 := Lib.hid o0
  have K0 := Lib.hid k0
  have S0 := Lib.hid s0
  have CO := Lib.hid (fun W hW => l1Once_ok g a c bs 4 W hW (by omega))
  have CE := Lib.hid (l4Element_ok g a c bs)
  have CV := Lib.hid (fun W hW => l5Vector_ok g a c bs m W hW (by omega))
  clear h o0 k0 s0
  go_enter Try.func160, Try.ntmps160
  go_wp2_with fail
  go_loopw [7, 8] (fun v i wr => ∃ (k : Nat) (a1 : Option Addr) (c1 : Nat) (xss : List (List Int)), k ≤ n ∧ i = .int .i64 k ∧ v = .slice a1 xss.length c1 ∧ Hid (xss.length = k) ∧ Hid (VR m xss) ∧ OM wr w.heap.size wr.heap.size a1 c1 xss ∧ Cur wr g a c bs ∧ Span g (g + 1) w wr) (fun _ i _ => n - (intOf i).toNat)
  case atStart => exact ⟨0, _, _, [], Nat.zero_le _, rfl, rfl, rfl, fun x hx => by simp at hx, O0.out, K0.out, S0.out⟩
  case round =>
    clear O0 K0 S0
    obtain ⟨k, a1, c1, xss, hk, rfl, rfl, HL, HV, ho, hc, hs⟩ := hrel
    have hxl : xss.length ≤ 1000 := by rw [HL.out]; omega
    by_cases hlt : k < n
    · have plain : Hid (∀ (wx : World), OM wx w.heap.size wx.heap.size a1 c1 xss → Cur wx g a c bs → Span g (g + 1) w wx → True) := fun _ _ _ _ => trivial
      by_cases hk0 : k = 0
      · subst hk0
        have CV1 := Lib.hid (CV.out wr hc)
        have hsz := hs.size
        clear plain
        go_wp2_with fail
        (with_reducible refine CV1.out.mono ?_)
        rintro e w2 ⟨a2, c2, ys, rfl, ⟨hyl, hya⟩, o2, k2, s2⟩
        have HYL := Lib.hid hyl
        have HYA := Lib.hid hya
        obtain ⟨zss, hzs⟩ : ∃ zss, Hid (zss = xss ++ [ys]) := ⟨_, rfl⟩
        have HL2 : Hid (zss.length = 0 + 1) := by rw [hzs.out, List.length_append, HL.out]; exact Lib.hid rfl
        have HV2 : Hid (VR m zss) := by rw [hzs.out]; exact HV.out.push HYA.out HYL.out hm
        have t2 := hs.trans s2
        have z2 := s2.size
        have O5 := (ho.span s2 (.inr hg)).ext ((Ext.refl w2).alloc (.cells #[.slice a2 ys.length c2] 32))
        have R5 := ((OI.of o2).ext ((Ext.refl w2).alloc (.cells #[.slice a2 ys.length c2] 32))).mono (C := wr.heap.size) (C2 := (w2.alloc (.cells #[.slice a2 ys.length c2] 32)).heap.size) (Nat.le_refl _) (by simp)
        have K5 := k2.ext ((Ext.refl w2).alloc (.cells #[.slice a2 ys.length c2] 32))
        have T5 := t2.alloc (.cells #[.slice a2 ys.length c2] 32)
        have hnew : Vals (w2.alloc (.cells #[.slice a2 ys.length c2] 32)) (some ⟨w2.heap.size, 0, none⟩) [.slice a2 ys.length c2] := Vals.new w2 [.slice a2 ys.length c2] 32
        have hob := Lib.hid ho.block
        clear ho hc hs o2 k2 s2 t2 hyl hya CV1
        go_wp2_with (at_builtin; refine wpList_appM _ rfl _ _ rfl w.heap.size wr.heap.size _ _ xss rfl O5 _ _ _ _ ys rfl hnew R5 hsz (by simp; omega) zss hzs.out (by omega) ?_)
        intro a7 c7 w7 o7 g7
        have k7 := K5.grown g7 (fun k hk => by have := (hob.out k hk).1; omega)
        have t7 := T5.grownN g7 (fun k hk => (hob.out k hk).1)
        clear g7 O5 R5 K5 T5 hnew hob
        go_wp2_with fail
        go_roundw
        case rel => exact ⟨0 + 1, a7, c7, zss, by omega, by go_num, rfl, HL2, HV2, o7, k7, t7⟩
        case measure => simp [intOf]; omega
      · obtain ⟨q, rfl⟩ : ∃ q, k = q + 1 := ⟨k - 1, by omega⟩
        have CO1 := Lib.hid (CO.out wr hc)
        have hsz := hs.size
        have i0 : (0 : Int) < ((q + 1 : Nat) : Int) := by omega
        clear plain hk0
        go_wp2_with fail
        (with_reducible refine CO1.out.mono ?_)
        rintro e w1 ⟨f, rfl, k1, s1⟩
        have o1 := ho.span s1 (.inr hg)
        have t1 := hs.trans s1
        have z1 := s1.size
        clear ho hc hs s1 CO1
        cases f
        · have CV1 := Lib.hid (CV.out w1 k1)
          go_wp2_with fail
          (with_reducible refine CV1.out.mono ?_)
          rintro e w2 ⟨a2, c2, ys, rfl, ⟨hyl, hya⟩, o2, k2, s2⟩
          have HYL := Lib.hid hyl
          have HYA := Lib.hid hya
          obtain ⟨zss, hzs⟩ : ∃ zss, Hid (zss = xss ++ [ys]) := ⟨_, rfl⟩
          have HL2 : Hid (zss.length = q + 1 + 1) := by rw [hzs.out, List.length_append, HL.out]; exact Lib.hid rfl
          have HV2 : Hid (VR m zss) := by rw [hzs.out]; exact HV.out.push HYA.out HYL.out hm
          have t2 := t1.trans s2
          have z2 := s2.size
          have O5 := (o1.span s2 (.inr hg)).ext ((Ext.refl w2).alloc (.cells #[.slice a2 ys.length c2] 32))
          have R5 := ((OI.of o2).ext ((Ext.refl w2).alloc (.cells #[.slice a2 ys.length c2] 32))).mono (C := wr.heap.size) (C2 := (w2.alloc (.cells #[.slice a2 ys.length c2] 32)).heap.size) (by omega) (by simp)
          have K5 := k2.ext ((Ext.refl w2).alloc (.cells #[.slice a2 ys.length c2] 32))
          have T5 := t2.alloc (.cells #[.slice a2 ys.length c2] 32)
          have hnew : Vals (w2.alloc (.cells #[.slice a2 ys.length c2] 32)) (some ⟨w2.heap.size, 0, none⟩) [.slice a2 ys.length c2] := Vals.new w2 [.slice a2 ys.length c2] 32
          have hob := Lib.hid o1.block
          clear o1 k1 t1 o2 k2 s2 t2 hyl hya CV1
          go_wp2_with (at_builtin; refine wpList_appM _ rfl _ _ rfl w.heap.size wr.heap.size _ _ xss rfl O5 _ _ _ _ ys rfl hnew R5 hsz (by simp; omega) zss hzs.out (by omega) ?_)
          intro a7 c7 w7 o7 g7
          have k7 := K5.grown g7 (fun k hk => by have := (hob.out k hk).1; omega)
          have t7 := T5.grownN g7 (fun k hk => (hob.out k hk).1)
          clear g7 O5 R5 K5 T5 hnew hob
          go_wp2_with fail
          go_roundw
          case rel => exact ⟨q + 1 + 1, a7, c7, zss, by omega, by go_num, rfl, HL2, HV2, o7, k7, t7⟩
          case measure => simp [intOf]; omega
        · have hq : q < xss.length := by rw [HL.out]; omega
          obtain ⟨b1, o1', ra, rc, xs, rfl, hbl, hx, hcl, hrow⟩ := o1.reads.at_ hq
          have hxo := HV.out.ok hx.out
          have hxn : Hid (xs.length = m) := hxo.2.2
          have HXV : Hid (validV xs = true) := validV_true.2 ⟨hxo.1, hxo.2.1⟩
          have nb : b1 < g ∨ g + 1 ≤ b1 := .inr (by have := (o1.block b1 rfl).1; omega)
          have D0 : Ext w1 w1.drew := (Ext.refl w1).drew
          have hcd := D0.cell hcl
          have HCL := Lib.hid hcl
          have K1 := Lib.hid (k1.ext D0)
          have M1 := Lib.hid (o1.ext D0)
          have T1 := Lib.hid (t1.trans (Span.of_ext (B := g) (B2 := g + 1) D0))
          have NB := Lib.hid nb
          have HR : Hid (∀ W, Span g (g + 1) w1.drew W → Vals W ra (I xs)) := fun W hW => by
            have hM := (M1.out.span hW (.inr hg)).reads
            obtain ⟨b2, o2, ra2, rc2, xs2, e2, _, hx2, hc2, hr2⟩ := hM.at_ hq
            have hcW := hW.cell hcd NB.out
            injection e2 with e2
            obtain ⟨rfl, rfl⟩ : b1 = b2 ∧ o1' = o2 := by simpa using e2
            rw [hc2] at hcW
            injection hcW with hcW
            injection hcW with h1 h2 h3
            subst h1
            have : xs2 = xs := by have := hx2.out; rw [hx.out] at this; injection this with this; exact this.symm
            rw [← this]
            exact hr2
          have i1 : (q : Int) < (xss.length : Int) := by omega
          have i2 : (0 : Int) ≤ (q : Int) := by omega
          have i3 : (q : Int) + 1 - 1 = (q : Int) := by omega
          have i4 : IntKind.i64.wrap ((q : Int) + 1 - 1) = (q : Int) := by rw [IntKind.wrap_i64]; omega
          have i5 : IntKind.i64.wrap (((q + 1 : Nat) : Int) - 1) = (q : Int) := by rw [IntKind.wrap_i64]; omega
          have i6 : IntKind.i64.wrap (q : Int) = (q : Int) := by rw [IntKind.wrap_i64]; omega
          have i7 : ((q + 1 : Nat) : Int) - 1 = (q : Int) := by omega
          have hob := Lib.hid o1.block
          clear o1 k1 t1 hrow hxo nb
          have hsum : ∀ w2 w3 : World, Span g (g + 1) w1.drew w2 → Ext w2 w3 → ∀ o, wr.heap.size ≤ (w3.alloc o).heap.size := fun w2 w3 h1 h2 o => by
            have q1 : w1.heap.size ≤ w2.heap.size := h1.size
            have q2 := h2.size_le
            simp
            omega
          have CS : Hid (∀ W (y : Int), Span g (g + 1) w1.drew W → inR y 0 1018 = true → Calls Try.prog 171 #[.slice ra xs.length rc, .int .i64 y] W (fun e w' => ∃ a3 c3 ys, e = .returned (.slice a3 ys.length c3) ∧ Hid (ys.length = m ∧ AllEl ys) ∧ OwnI w' W.heap.size a3 c3 ys ∧ Ext W w')) := fun W y hW hy =>
            (specScaleVector_ok _ _ _ _ _ (HR.out W hW) HXV.out hy).mono (by rintro e w' ⟨a3, c3, rfl, o3, e3⟩; exact ⟨a3, c3, _, rfl, ⟨by rw [scl_length, hxn.out], scl_AllEl _ _⟩, o3, e3⟩)
          go_wp2_with fail
          go_region_law
            (first
              | (go_simp; go_at_call 162; (with_reducible refine (CE.out _ K1.out).mono ?_); rintro e w2 ⟨y, rfl, hx0, k2, s2⟩; have hcd2 := s2.cell hcd NB.out; go_wp2_with fail)
              | (go_simp; go_at_call 171; (with_reducible refine (CS.out _ _ s2 hx0).mono ?_); rintro e w3 ⟨a3, c3, ys, rfl, hys, o3, e3⟩; obtain ⟨zss, hzs⟩ : ∃ zss, Hid (zss = xss ++ [ys]) := ⟨_, rfl⟩; have O5 := Lib.hid (((M1.out.span s2 (.inr hg)).ext e3).ext ((Ext.refl w3).alloc (.cells #[.slice a3 ys.length c3] 32))); have R5 := Lib.hid (((OI.of o3).ext ((Ext.refl w3).alloc (.cells #[.slice a3 ys.length c3] 32))).mono (C := wr.heap.size) (C2 := (w3.alloc (.cells #[.slice a3 ys.length c3] 32)).heap.size) (Nat.le_trans z1 s2.size) (by simp)); have hnew := Lib.hid (Vals.new w3 [.slice a3 ys.length c3] 32); have hC3 : Hid (wr.heap.size ≤ (w3.alloc (.cells #[.slice a3 ys.length c3] 32)).heap.size) := hsum w2 w3 s2 e3 _; go_wp2_with fail)
              | (refine step_appM _ (by rfl) _ _ (by rfl) w.heap.size wr.heap.size _ _ xss (by rfl) O5.out _ _ _ _ ys (by rfl) hnew.out R5.out hsz hC3.out zss hzs.out (by omega) ?_; intro a7 c7 w7 o7 g7))
          all_goals
            have HL2 : Hid (zss.length = q + 1 + 1) := by rw [hzs.out, List.length_append, HL.out]; exact Lib.hid rfl
            have HV2 : Hid (VR m zss) := by rw [hzs.out]; exact HV.out.push hys.out.2 hys.out.1 hm
            have k7 := ((k2.ext e3).ext ((Ext.refl w3).alloc (.cells #[.slice a3 ys.length c3] 32))).grown g7 (fun k hk => by have := (hob.out k hk).1; omega)
            have t7 := (((T1.out.trans s2).trans (Span.of_ext e3)).alloc (.cells #[.slice a3 ys.length c3] 32)).grownN g7 (fun k hk => (hob.out k hk).1)
            clear g7 O5 R5 hnew hob M1 K1 T1 CS HR k2 s2 e3 o3 hys hcd hcl
            go_wp2_with fail
            go_roundw
            case rel => exact ⟨q + 1 + 1, a7, c7, zss, by omega, by go_num, rfl, HL2, HV2, o7, k7, t7⟩
            case measure => simp [intOf]; omega
    · obtain rfl : k = n := by omega
      go_wp2_with fail
      go_ret
      exact ⟨a1, c1, xss, rfl, ⟨HL.out, HV.out⟩, ho, hc, hs⟩

theorem RV_nils (n : Nat) : RV (List.replicate n (none, 0)) (List.replicate n []) = List.replicate n (Value.slice none 0 0) := by
  unfold RV
  rw [List.zipWith_replicate]
  simp [rowV]
theorem RowsO.nils (w : World) (B B2 n : Nat) : RowsO w B B2 (List.replicate n (none, 0)) (List.replicate n []) := by
  refine ⟨by simp, fun i r xs hr hx => ?_, fun i j r r' _ h1 h2 => ?_⟩
  · rw [List.getElem?_replicate] at hr hx
    split at hr
    · rename_i hi
      rw [if_pos hi] at hx
      injection hr with hr
      injection hx with hx
      subst hr hx
      exact OI.nil _ _ _
    · cases hr
  · rw [List.getElem?_replicate] at h1
    split at h1
    · injection h1 with h1
      subst h1
      exact fun k hk => by simp [blockOf] at hk
    · cases h1

set_option maxHeartbeats 4000000 in
set_option maxRecDepth 100000 in
theorem l6Any_ok (g : Nat) (a : Option Addr) (c : Nat) (bs : List Int) (n m : Nat) (w : World) (h : Cur w g a c bs) (hn : n ≤ 1000) (hm : m ≤ 40) :
    Calls Try.prog 159 #[curV g, .int .i64 n, .int .i64 m] w (DrM g a c bs (fun xss => xss.length ≤ n + 41 ∧ ∀ xs ∈ xss, xs.length ≤ 81) w) := by
  have hg := h.lt
  have C1 := Lib.hid (l6Matrix_ok g a c bs n m w h hn hm)
  have CB := Lib.hid (fun W n (hW : Cur W g a c bs) (hn : n ≤ 1000000000) => l1Below_ok g a c bs n W hW hn)
  have CA := Lib.hid (fun W (hW : Cur W g a c bs) => l5Any_ok g a c bs m W hW (by omega))
  obtain ⟨i, hi, hz0, hz1, hz2⟩ := info_parts infoInts
  clear h
  go_enter Try.func159, Try.ntmps159
  go_wp2_with fail
  (with_reducible refine C1.out.mono ?_)
  rintro e w1 ⟨a2, c2, xss, rfl, ⟨hxl, hxv⟩, o1, k1, s1⟩
  have HXV := Lib.hid hxv
  have HXL := Lib.hid hxl
  clear hxv hxl C1
  go_wp2_with fail
  (with_reducible refine (CB.out _ _ k1 (by omega)).mono ?_)
  rintro e w2 ⟨x, rfl, x0, x1, k2, s2⟩
  have o2 := o1.span s2 (.inr hg)
  have t2 := s1.trans s2
  have z1 := s1.size
  have z2 := s2.size
  have hul : xss.length ≤ 1000 := by rw [HXL.out]; omega
  have HXB : Hid (∀ xs ∈ xss, xs.length ≤ 81) := fun xs hx => by have := (HXV.out xs hx).2; omega
  clear o1 k1 s1 s2
  by_cases e0 : x = 0
  · subst e0
    go_wp2_with fail
    (with_reducible refine (CA.out _ k2).mono ?_)
    rintro e w3 ⟨a3, c3, ys, rfl, hyl, o3, k3, s3⟩
    have m3 := o2.span s3 (.inr hg)
    have t3 := t2.trans s3
    have z3 := s3.size
    obtain ⟨zss, hzs⟩ : ∃ zss, Hid (zss = xss ++ [ys]) := ⟨_, rfl⟩
    have HL2 : Hid (zss.length ≤ n + 41 ∧ ∀ xs ∈ zss, xs.length ≤ 81) := by
      rw [hzs.out]
      refine ⟨by rw [List.length_append, HXL.out]; simp, fun xs hx => ?_⟩
      rcases List.mem_append.1 hx with hx | hx
      · exact HXB.out xs hx
      · rw [List.mem_singleton.1 hx]; omega
    have O5 := m3.ext ((Ext.refl w3).alloc (.cells #[.slice a3 ys.length c3] 32))
    have R5 := ((OI.of o3).ext ((Ext.refl w3).alloc (.cells #[.slice a3 ys.length c3] 32))).mono (C := w1.heap.size) (C2 := (w3.alloc (.cells #[.slice a3 ys.length c3] 32)).heap.size) (by omega) (by simp)
    have K5 := k3.ext ((Ext.refl w3).alloc (.cells #[.slice a3 ys.length c3] 32))
    have T5 := t3.alloc (.cells #[.slice a3 ys.length c3] 32)
    have hnew : Vals (w3.alloc (.cells #[.slice a3 ys.length c3] 32)) (some ⟨w3.heap.size, 0, none⟩) [.slice a3 ys.length c3] := Vals.new w3 [.slice a3 ys.length c3] 32
    have hob := Lib.hid m3.block
    clear o2 k2 t2 s3 m3 t3 k3 o3
    go_wp2_with (at_builtin; refine wpList_appM _ rfl _ _ rfl w.heap.size w1.heap.size _ _ xss rfl O5 _ _ _ _ ys rfl hnew R5 (by omega) (by simp; omega) zss hzs.out (by omega) ?_)
    intro a7 c7 w7 o7 g7
    have k7 := K5.grown g7 (fun k hk => by have := (hob.out k hk).1; omega)
    have t7 := T5.grownN g7 (fun k hk => (hob.out k hk).1)
    clear g7 O5 R5 K5 T5 hnew hob
    go_wp2_with fail
    go_ret
    exact ⟨a7, c7, zss, rfl, HL2.out, o7, k7, t7⟩
  by_cases e1 : x = 1
  · subst e1
    go_wp2_with fail
    (with_reducible refine (CB.out _ _ k2 (by omega)).mono ?_)
    rintro e w3 ⟨y, rfl, y0, y1, k3, s3⟩
    obtain ⟨q, rfl⟩ := Int.eq_ofNat_of_zero_le y0
    have hq : q ≤ 1 := by omega
    have t3 := t2.trans s3
    have z3 := t3.size
    clear o2 k2 t2 s3 y0 y1
    go_wp2_with (at_make; refine wpList_make_full _ rfl _ _ 48 rfl w3.heap.size 32 i (.slice none 0 0) 1 Try.underlying48 hi hz0 hz1 _ _ _ _ (40 + q) rfl rfl rfl rfl ?b1 ?b2 (Nat.le_refl _) ?_)
    case b1 => rw [hz2]; omega
    case b2 => unfold maxLen; omega
    intro w4 hown hgrow
    have o4 : OM w4 w.heap.size w4.heap.size (some ⟨w3.heap.size, 0, none⟩) (40 + q) (List.replicate (40 + q) []) := by
      refine OM.mono (B := w3.heap.size) (B2 := w4.heap.size) ⟨List.replicate (40 + q) (none, 0), ?_, ?_, RowsO.nils _ _ _ _⟩ (by omega) (Nat.le_refl _)
      · rw [RV_nils, List.length_replicate]
        simpa [Value.cells, toList_madeCells_one] using hown
      · intro k hk
        simp [blockOf] at hk
        have : (some ⟨w3.heap.size, 0, none⟩ : Option Addr) = some ⟨w3.heap.size, 0, none⟩ := rfl
        have hb := ownsRow_block hown w3.heap.size rfl
        omega
    have k4 := k3.grown hgrow (by simp)
    have t4 := t3.grownN hgrow (by simp)
    clear hown hgrow k3 t3
    go_wp2_with fail
    go_ret
    exact ⟨_, _, List.replicate (40 + q) [], by simp, ⟨by simp; omega, fun xs hx => by rw [(List.mem_replicate.1 hx).2]; simp⟩, o4, k4, t4⟩
  · have e0' : (x == 0) = false := by simp [e0]
    have e1' : (x == 1) = false := by simp [e1]
    go_wp2_with fail
    go_ret
    exact ⟨a2, c2, xss, rfl, ⟨by have := HXL.out; omega, HXB.out⟩, o2.mono (Nat.le_refl _) z2, k2, t2⟩

/-- A drawn matrix: read only from now on. -/
def DM (w : World) (e : Ending) (w' : World) : Prop := ∃ a2 c2 xss, e = .returned (.slice a2 xss.length c2) ∧ (xss.length ≤ 60 ∧ ∀ xs ∈ xss, xs.length ≤ 81) ∧ MatR w' a2 xss ∧ Ext w w'

set_option maxHeartbeats 1000000 in
theorem l6One_ok (a : Option Addr) (c : Nat) (bs : List Int) (w : World) (h : Vals w a (Y bs)) (hb : ∀ x ∈ bs, 0 ≤ x ∧ x ≤ 255) (hl : bs.length ≤ 1048576) :
    Calls Try.prog 134 #[.slice a bs.length c] w (DM w) := by
  have C1 := Lib.hid (l1New_ok a c bs w h hb hl)
  have CB := Lib.hid (fun W n g (hW : Cur W g a c bs) (hn : n ≤ 1000000000) => l1Below_ok g a c bs n W hW hn)
  have CA := Lib.hid (fun W (n m : Nat) g (hW : Cur W g a c bs) (hn : n ≤ 1000) (hm : m ≤ 40) => l6Any_ok g a c bs n m W hW hn hm)
  clear h hb
  go_enter Try.func134, Try.ntmps134
  go_wp2_with fail
  (with_reducible refine C1.out.mono ?_)
  rintro e w1 ⟨rfl, k1, e1⟩
  obtain ⟨g, hgg⟩ : ∃ g, w.heap.size = g := ⟨_, rfl⟩
  rw [hgg] at k1 ⊢
  go_wp2_with fail
  (with_reducible refine (CB.out _ _ _ k1 (by omega)).mono ?_)
  rintro e w2 ⟨x, rfl, x0, x1, k2, s2⟩
  obtain ⟨n, rfl⟩ := Int.eq_ofNat_of_zero_le x0
  go_wp2_with fail
  (with_reducible refine (CB.out _ _ _ k2 (by omega)).mono ?_)
  rintro e w3 ⟨y, rfl, y0, y1, k3, s3⟩
  obtain ⟨m, rfl⟩ := Int.eq_ofNat_of_zero_le y0
  go_wp2_with fail
  (with_reducible refine (CA.out _ _ _ _ k3 (by omega) (by omega)).mono ?_)
  rintro e w4 ⟨a4, c4, xss, rfl, hx, o4, k4, s4⟩
  have t4 := (s2.trans s3).trans s4
  have E4 : Ext w w4 := Span.ext e1 t4 (by omega)
  clear k1 k2 k3 k4 s2 s3 s4
  go_wp2_with fail
  go_ret
  exact ⟨a4, c4, xss, rfl, ⟨by omega, hx.2⟩, o4.reads, E4⟩

end Go.Proofs.Ytkegknophppdgaa
