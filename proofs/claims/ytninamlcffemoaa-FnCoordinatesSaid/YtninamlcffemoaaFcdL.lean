/- FnCoordinates: DrawCoordinates; the law. -/
import Derived.Test.YtninamlcffemoaaDbc
import Derived.Test.YtninamlcffemoaaCop
import Derived.Test.YtninamlcffemoaaSame
import Derived.Test.YtninamlcffemoaaComb
import Derived.Deep.RegionHeld3
namespace Go.Proofs.Ytninamlcffemoaa
open Go.RowKit
set_option linter.unusedVariables false
set_option maxRecDepth 20000

set_option maxHeartbeats 4000000 in
set_option maxRecDepth 100000 in
theorem drawCoordinates_ok (a : Option Addr) (c : Nat) (bs : List Int) (w : World) (h : Vals w a (Y bs)) (hb : ∀ x ∈ bs, 0 ≤ x ∧ x ≤ 255) (hl : bs.length ≤ 1048576) :
    Calls Try.prog 51 #[.slice a bs.length c] w (DBV w) := by
  have xa := (Ext.refl w).alloc (.cells #[.int .i64 0, .slice none 0 0] 46)
  have b0 := Box2.new w (.int .i64 0) (.slice none 0 0) 46
  have C1 := Lib.hid (l8Pair_ok a c bs _ (h.ext xa) hb hl)
  clear h hb
  go_enter Try.func51, Try.ntmps51
  go_wp2_with fail
  (with_reducible refine C1.out.mono ?_)
  rintro e w1 ⟨n, a2, c2, xss, b, d, v, rfl, hok, m2, v2, e1⟩
  have E1 := xa.trans e1
  obtain ⟨b10, b11, b12⟩ := b0.ext e1
  have b120 := b12 0
  have b121 := b12 1
  have hz : (w.alloc (.cells #[.int .i64 0, .slice none 0 0] 46)).heap.size = w.heap.size + 1 := by simp
  have HF : Hid (DBV w (.returned (.tuple #[bsV n a2 c2 xss, .slice b v.length d])) ((w1.setCell ⟨w.heap.size, 0, none⟩ (.int .i64 n)).setCell ⟨w.heap.size, 1, none⟩ (.slice a2 xss.length c2))) :=
    ⟨n, a2, c2, xss, b, d, v, rfl, hok,
      ((m2.setCell (p := ⟨w.heap.size, 0, none⟩) (by show w.heap.size < _; omega) (.int .i64 n)).setCell (p := ⟨w.heap.size, 1, none⟩) (by show w.heap.size < _; omega) (.slice a2 xss.length c2)).mono (by omega) (by simp),
      ((v2.setCell (p := ⟨w.heap.size, 0, none⟩) (by show w.heap.size < _; omega) (.int .i64 n)).setCell (p := ⟨w.heap.size, 1, none⟩) (by show w.heap.size < _; omega) (.slice a2 xss.length c2)).more (by omega),
      (E1.setCell (p := ⟨w.heap.size, 0, none⟩) (Nat.le_refl _) (.int .i64 n)).setCell (p := ⟨w.heap.size, 1, none⟩) (Nat.le_refl _) (.slice a2 xss.length c2)⟩
  clear C1 xa b0 e1 m2 v2 E1 b12 hz hok
  go_wp2_with fail
  refine bodyPost_ret (v := .tuple #[bsV n a2 c2 xss, .slice b v.length d]) (by simp only [results, Try.results51]; go_simp) rfl HF.out

theorem sameInts_slf (a b : Option Addr) (c d : Nat) (xs : List Int) (w : World) (h : Vals w a (I xs)) (h' : Vals w b (I xs)) (hl : xs.length ≤ 1099511627776) :
    Calls Try.prog 43 #[.slice a xs.length c, .slice b xs.length d] w (Quiet w (.bool true)) := by
  have := sameInts_ok a b c d xs xs w h h' hl
  rw [show decide (xs = xs) = true from decide_eq_true rfl] at this
  exact this

set_option maxHeartbeats 8000000 in
set_option maxRecDepth 100000 in
theorem lawFnCoordinates (a : Option Addr) (c : Nat) (xs : List Int) (w : World) (r0 : Vals w a (Y xs)) (m0 : xs.length ≤ maxLen) (m1 : ∀ x ∈ xs, 0 ≤ x ∧ x ≤ 255) :
    Calls Try.prog 9 #[.slice a xs.length c] w (Gives w (.bool true)) := by
  by_cases hl : xs.length ≤ 1048576
  rotate_left
  · have C1 := Lib.hid (big_yes a c xs w hl m0)
    clear r0 m1 hl m0
    go_enter Try.func9, Try.ntmps9
    go_wp2_with (go_at_call 23; (with_reducible refine C1.out.mono ?_); rintro e w' ⟨rfl, rfl⟩)
    go_ret
    exact ⟨rfl, Ext.refl _⟩
  have C1 := Lib.hid (big_no a c xs w hl)
  have CD := Lib.hid (drawCoordinates_ok a c xs w r0 m1 hl)
  clear r0 m1 hl m0
  go_enter Try.func9, Try.ntmps9
  go_wp2_with (go_at_call 23; (with_reducible refine C1.out.mono ?_); rintro e w' ⟨rfl, rfl⟩)
  (with_reducible refine CD.out.mono ?_)
  rintro e w1 ⟨n, am, cm, m, bv, dv, v, rfl, ⟨⟨hn, hml, hmv⟩, hvl⟩, oM, oV, e1⟩
  have hM := Lib.hid oM.reads
  have hV := Lib.hid oV.vals
  have HMB : Hid (∀ xs ∈ m, xs.length ≤ 1048576) := fun xs hx => by have := (validV_true.1 (hmv xs hx)).2; omega
  have x1 := (Ext.refl w1).alloc (.cells #[.int .i64 n, .slice am m.length cm] 46)
  have p1 := Box2.new w1 (.int .i64 n) (.slice am m.length cm) 46
  have CC := implCoordinates_ok n am cm m bv dv v _ (hM.out.ext x1) (hV.out.ext x1) (by omega) HMB.out (by omega)
  obtain ⟨co, hco⟩ : ∃ co, Hid (co = coC n m v) := ⟨_, rfl⟩
  obtain ⟨q, hq⟩ : ∃ q, Hid (q = cvB n m v) := ⟨_, rfl⟩
  have hcol : co.length ≤ 40 := by rw [hco.out]; exact coC_len _ _ _
  have QN : Hid (q = false → co = []) := fun h => by rw [hco.out]; unfold coC; rw [← hq.out, h]; rfl
  have Q0 : Hid (m.length = 0 → co = []) := fun h => by rw [hco.out]; unfold coC coordTo; rw [h]; split <;> rfl
  have QY : Hid (q = true → 0 < m.length → co.length = m.length ∧ comb m co = v ∧ spanR m n = m ∧ basisW n = n) := fun h h0 => by
    rw [hq.out] at h
    rw [hco.out]
    obtain ⟨g1, g2, g3⟩ := coord_all h h0
    refine ⟨g1, g2, g3, ?_⟩
    obtain ⟨v1, v2, _, _⟩ := validB_true.1 (fitsB_nat h).1
    unfold basisW
    rw [if_pos (inR_true.2 ⟨v1, v2⟩)]
  rw [← hco.out, ← hq.out] at CC
  have CT := Lib.hid (fun W (hE : Ext w1 W) => specContainsVector_ok n am cm m bv dv v W (hM.out.ext hE) (hV.out.ext hE) (by omega) HMB.out (by omega))
  rw [← hq.out] at CT
  replace CC := Lib.hid CC
  clear oM oV hmv hn CD C1 hco hq
  go_wp2_with fail
  (with_reducible refine CC.out.mono ?_)
  rintro e w2 ⟨a2, c2, rfl, o2, e2⟩
  have X2 := x1.trans e2
  have E2 := e1.trans X2
  obtain ⟨p20, p21, p22⟩ := p1.ext e2
  have CT2 := Lib.hid (CT.out _ X2)
  have hv2 := Lib.hid o2.vals
  clear CC CT p1 x1 e2 p22 e1 o2
  go_wp2_with fail
  (with_reducible refine CT2.out.mono ?_)
  rintro e w3 ⟨rfl, e3⟩
  have p30 := e3.cell p20
  have p31 := e3.cell p21
  have E3 := E2.trans e3
  have X3 := Lib.hid (X2.trans e3)
  have hv3 := Lib.hid (hv2.out.ext e3)
  clear CT2 p20 p21 E2 X2 e3 hv2
  cases q
  · have hc0 := QN.out rfl
    subst hc0
    clear QY Q0 QN
    go_wp2_with fail
    go_ret
    exact ⟨rfl, E3⟩
  by_cases h0 : m.length = 0
  · have hc0 := Q0.out h0
    subst hc0
    have i1 : ((m.length : Int) == 0) = true := by rw [h0]; rfl
    clear QY Q0 QN h0
    go_wp2_with fail
    go_ret
    exact ⟨rfl, E3⟩
  have hm0 : 0 < m.length := by omega
  obtain ⟨y1, y2, y3, y4⟩ := QY.out rfl hm0
  have i1 : ((m.length : Int) == 0) = false := not_eq_of (by omega)
  have i2 : ((co.length : Int) == (m.length : Int)) = true := eq_of (by omega)
  have i3 : decide ((co.length : Int) = (m.length : Int)) = true := decide_eq_true (by omega)
  have Y2 := Lib.hid y2
  have Y3 := Lib.hid y3
  have Y4 := Lib.hid y4
  have CM : Hid (∀ W, Ext w3 W → Calls Try.prog 54 #[.slice am m.length cm, .slice a2 co.length c2] W (NewI W v)) := fun W hE => by
    have := specCombine_ok am a2 cm c2 m co W (hM.out.ext (X3.out.trans hE)) (hv3.out.ext hE) (by omega) HMB.out (by omega)
    rwa [Y2.out] at this
  have CS : Hid (∀ W, Ext w3 W → Calls Try.prog 55 #[.slice am m.length cm, .int .i64 n] W (NewB W n m)) := fun W hE => by
    have := implSpanOf_ok am cm m n W (hM.out.ext (X3.out.trans hE)) (by omega) HMB.out
    rwa [Y3.out, Y4.out] at this
  have CE : Hid (∀ W b d, Ext w3 W → MatR W b m → Calls Try.prog 50 #[bsV n b d m, bsV n am cm m] W (Gives W (.bool true))) := fun W b d hE hb => by
    have := implEqualBases_ok n b d m n am cm m W hb (hM.out.ext (X3.out.trans hE)) (by omega) HMB.out
    rwa [eqB_self] at this
  have CV : Hid (∀ W b d, Ext w3 W → Vals W b (I v) → Calls Try.prog 43 #[.slice b v.length d, .slice bv v.length dv] W (Quiet W (.bool true))) := fun W b d hE hb =>
    sameInts_slf b bv d dv v W hb (hV.out.ext (X3.out.trans hE)) (by omega)
  have KEEP : Hid (∀ w', Ext w3 w' → w'.cell? ⟨w1.heap.size, 0, none⟩ = some (.int .i64 n) ∧ w'.cell? ⟨w1.heap.size, 1, none⟩ = some (.slice am m.length cm)) := fun w' hE => ⟨hE.cell p30, hE.cell p31⟩
  have x0 : Ext w3 w3.drew := (Ext.refl w3).drew
  clear y1 y2 y3 y4 QY Q0 QN h0 X3 hM hV hv3
  go_wp2_with fail
  go_region_held3 (fun w' => w'.cell? ⟨w1.heap.size, 0, none⟩ = some (.int .i64 n) ∧ w'.cell? ⟨w1.heap.size, 1, none⟩ = some (.slice am m.length cm))
    (first | exact KEEP.out _ x4 | exact KEEP.out _ x3 | exact KEEP.out _ x2 | exact KEEP.out _ x1 | exact KEEP.out _ x0 | exact KEEP.out _ (Ext.refl _) | go_keep)
    (first
      | (go_at_call 50; (with_reducible refine (CE.out _ _ _ x3 o3.reads).mono ?_); rintro e v4 ⟨rfl, f4⟩; have x4 := x3.trans f4)
      | (go_at_call 55; (with_reducible refine (CS.out _ x2).mono ?_); rintro e v3 ⟨a6, c6, rfl, o3, f3⟩; have x3 := x2.trans f3)
      | (go_at_call 43; (with_reducible refine (CV.out _ _ _ x1 o1.vals).mono ?_); rintro e v2 ⟨rfl, f2⟩; have x2 := x1.trans f2.ext)
      | (go_at_call 54; (with_reducible refine (CM.out _ x0).mono ?_); rintro e v1 ⟨a5, c5, rfl, o1, f1⟩; have x1 := x0.trans f1))
  go_wp2_with fail
  go_ret
  exact ⟨rfl, E3.trans x4⟩

end Go.Proofs.Ytninamlcffemoaa
