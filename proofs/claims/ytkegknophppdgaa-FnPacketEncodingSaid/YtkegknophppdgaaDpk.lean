/- Draws of packets: contracts of l11Packet, l11Any, l11One. -/
import Derived.Test.YtkegknophppdgaaLawCode
import Derived.Test.YtkegknophppdgaaDgn
import Derived.Deep.RegionHeld3
namespace Go.Proofs.Ytkegknophppdgaa
open Go.RowKit
set_option linter.unusedVariables false
set_option maxRecDepth 20000

def okP (m : Int) (cs ps : List Int) : Prop := (-1 ≤ m ∧ m ≤ 1000000000001) ∧ cs.length ≤ 200 ∧ ps.length ≤ 200 ∧ AllEl ps
theorem codeP_AllEl (n : Int) (xss : List (List Int)) (cs : List Int) : AllEl (codeP n xss cs) := by
  unfold codeP
  split
  · exact cmbTo_AllEl _ _ _ _
  · exact fun x hx => by simp at hx
def DrP (g : Nat) (a : Option Addr) (c : Nat) (bs : List Int) (P : Int → List Int → List Int → Prop) (w : World) (e : Ending) (w' : World) : Prop :=
  ∃ m a3 c3 cs a4 c4 ps, e = .returned (pkV m a3 c3 cs a4 c4 ps) ∧ P m cs ps ∧ OwnI w' w.heap.size a3 c3 cs ∧ OwnI w' w.heap.size a4 c4 ps ∧ Apart a3 a4 ∧ Cur w' g a c bs ∧ Span g (g + 1) w w'

theorem zbox {W v : World} (h : Ext (W.alloc (.cells #[.int .i64 0, .slice none 0 0, .slice none 0 0] 35)) v) : v.cell? ⟨W.heap.size, 0, none⟩ = some (.int .i64 0) ∧ v.cell? ⟨W.heap.size, 1, none⟩ = some (.slice none 0 0) ∧ v.cell? ⟨W.heap.size, 2, none⟩ = some (.slice none 0 0) ∧ v.frozen? ⟨W.heap.size, 0, none⟩ = false ∧ v.frozen? ⟨W.heap.size, 1, none⟩ = false ∧ v.frozen? ⟨W.heap.size, 2, none⟩ = false := by
  have hb := h.block_eq (k := W.heap.size) (by simp)
  refine ⟨(World.cell?_of_block hb).trans (by simp), (World.cell?_of_block hb).trans (by simp), (World.cell?_of_block hb).trans (by simp), (World.frozen?_of_block hb).trans (by simp), (World.frozen?_of_block hb).trans (by simp), (World.frozen?_of_block hb).trans (by simp)⟩
theorem zboxS {W v u : World} {g : Nat} (h : Span g (g + 1) (W.alloc (.cells #[.int .i64 0, .slice none 0 0, .slice none 0 0] 35)).drew v) (hg : g < W.heap.size) (he : Ext v u) : u.cell? ⟨W.heap.size, 0, none⟩ = some (.int .i64 0) ∧ u.cell? ⟨W.heap.size, 1, none⟩ = some (.slice none 0 0) ∧ u.cell? ⟨W.heap.size, 2, none⟩ = some (.slice none 0 0) ∧ u.frozen? ⟨W.heap.size, 0, none⟩ = false ∧ u.frozen? ⟨W.heap.size, 1, none⟩ = false ∧ u.frozen? ⟨W.heap.size, 2, none⟩ = false := by
  have h0 : W.heap.size < (W.alloc (.cells #[.int .i64 0, .slice none 0 0, .slice none 0 0] 35)).drew.heap.size := by simp
  have hb := (he.block_eq (k := W.heap.size) (Nat.lt_of_lt_of_le h0 h.size)).trans (h.block W.heap.size h0 (.inr hg))
  refine ⟨(World.cell?_of_block hb).trans (by simp), (World.cell?_of_block hb).trans (by simp), (World.cell?_of_block hb).trans (by simp), (World.frozen?_of_block hb).trans (by simp), (World.frozen?_of_block hb).trans (by simp), (World.frozen?_of_block hb).trans (by simp)⟩

/-- Three cells of a block that may be written. -/
def Bx3 (w : World) (p : Nat) (u v z : Value) : Prop := w.cell? ⟨p, 0, none⟩ = some u ∧ w.cell? ⟨p, 1, none⟩ = some v ∧ w.cell? ⟨p, 2, none⟩ = some z ∧ ∀ j, w.frozen? ⟨p, j, none⟩ = false
section
variable {w w' : World} {p : Nat} {u v z : Value}
theorem Bx3.lt (h : Bx3 w p u v z) : p < w.heap.size := World.block_lt_of_cell? _ _ h.1
theorem Bx3.new (w : World) (u v z : Value) (e : TypeId) : Bx3 (w.alloc (.cells #[u, v, z] e)) w.heap.size u v z := ⟨by simp, by simp, by simp, fun j => by simp⟩
theorem Bx3.at_ (h : Bx3 w p u v z) (hb : w'.heap[p]? = w.heap[p]?) : Bx3 w' p u v z :=
  ⟨(World.cell?_of_block hb).trans h.1, (World.cell?_of_block hb).trans h.2.1, (World.cell?_of_block hb).trans h.2.2.1, fun j => (World.frozen?_of_block hb).trans (h.2.2.2 j)⟩
theorem Bx3.ext (h : Bx3 w p u v z) (he : Ext w w') : Bx3 w' p u v z := h.at_ (he.block_eq h.lt)
theorem Bx3.span {C C2 : Nat} (h : Bx3 w p u v z) (hs : Span C C2 w w') (hd : p < C ∨ C2 ≤ p) : Bx3 w' p u v z := h.at_ (hs.block p h.lt hd)
theorem Bx3.put0 (h : Bx3 w p u v z) (y : Value) : Bx3 (w.setCell ⟨p, 0, none⟩ y) p y v z :=
  ⟨World.cell?_setCell_same _ _ _ h.1, (World.cell?_setCell_other _ _ _ _ (by simp)).trans h.2.1, (World.cell?_setCell_other _ _ _ _ (by simp)).trans h.2.2.1, fun j => by simpa using h.2.2.2 j⟩
theorem Bx3.put1 (h : Bx3 w p u v z) (y : Value) : Bx3 (w.setCell ⟨p, 1, none⟩ y) p u y z :=
  ⟨(World.cell?_setCell_other _ _ _ _ (by simp)).trans h.1, World.cell?_setCell_same _ _ _ h.2.1, (World.cell?_setCell_other _ _ _ _ (by simp)).trans h.2.2.1, fun j => by simpa using h.2.2.2 j⟩
theorem Bx3.put2 (h : Bx3 w p u v z) (y : Value) : Bx3 (w.setCell ⟨p, 2, none⟩ y) p u v y :=
  ⟨(World.cell?_setCell_other _ _ _ _ (by simp)).trans h.1, (World.cell?_setCell_other _ _ _ _ (by simp)).trans h.2.1, World.cell?_setCell_same _ _ _ h.2.2.1, fun j => by simpa using h.2.2.2 j⟩
end
/-- Three stores into a block leave the three values. -/
theorem set3 {v : World} {z : Nat} {a0 a1 a2 : Value} (r0 : v.cell? ⟨z, 0, none⟩ = some a0) (r1 : v.cell? ⟨z, 1, none⟩ = some a1) (r2 : v.cell? ⟨z, 2, none⟩ = some a2) (u0 u1 u2 : Value) :
    (((v.setCell ⟨z, 0, none⟩ u0).setCell ⟨z, 1, none⟩ u1).setCell ⟨z, 2, none⟩ u2).cell? ⟨z, 0, none⟩ = some u0 ∧ (((v.setCell ⟨z, 0, none⟩ u0).setCell ⟨z, 1, none⟩ u1).setCell ⟨z, 2, none⟩ u2).cell? ⟨z, 1, none⟩ = some u1 ∧ (((v.setCell ⟨z, 0, none⟩ u0).setCell ⟨z, 1, none⟩ u1).setCell ⟨z, 2, none⟩ u2).cell? ⟨z, 2, none⟩ = some u2 :=
  ⟨(World.cell?_setCell_other _ _ _ _ (by simp)).trans ((World.cell?_setCell_other _ _ _ _ (by simp)).trans (World.cell?_setCell_same _ _ _ r0)),
    (World.cell?_setCell_other _ _ _ _ (by simp)).trans (World.cell?_setCell_same _ _ _ ((World.cell?_setCell_other _ _ _ _ (by simp)).trans r1)),
    World.cell?_setCell_same _ _ _ ((World.cell?_setCell_other _ _ _ _ (by simp)).trans ((World.cell?_setCell_other _ _ _ _ (by simp)).trans r2))⟩
/-- What stands behind the drawn region of l11Packet, whichever way it went. -/
def Pst (g : Nat) (a : Option Addr) (c : Nat) (bs : List Int) (w W : World) (z : Nat) (m : Int) (a3 : Option Addr) (c3 : Nat) (cs : List Int) (a4 : Option Addr) (c4 : Nat) (ps : List Int) : Prop :=
  (W.cell? ⟨z, 0, none⟩ = some (.int .i64 m) ∧ W.cell? ⟨z, 1, none⟩ = some (.slice a3 cs.length c3) ∧ W.cell? ⟨z, 2, none⟩ = some (.slice a4 ps.length c4)) ∧
  Bx3 W (w.heap.size + 1) (.int .i64 0) (.slice none 0 0) (.slice none 0 0) ∧ OwnI W (w.heap.size + 2) a3 c3 cs ∧ OwnI W (w.heap.size + 2) a4 c4 ps ∧ Cur W g a c bs ∧ Span g (g + 1) w W ∧ w.heap.size + 2 ≤ z

def NP (W : World) (e : Ending) (w' : World) : Prop :=
  ∃ m cs ps ok a3 c3 a4 c4, e = .returned (.tuple #[pkV m a3 c3 cs a4 c4 ps, .bool ok]) ∧ Hid (okP m cs ps) ∧ OwnI w' W.heap.size a3 c3 cs ∧ OwnI w' W.heap.size a4 c4 ps ∧ Apart a3 a4 ∧ Ext W w'

set_option maxHeartbeats 8000000 in
set_option maxRecDepth 100000 in
theorem l11Packet_ok (g : Nat) (a : Option Addr) (c : Nat) (bs : List Int) (n : Int) (a2 : Option Addr) (c2 : Nat) (xss : List (List Int)) (B C : Nat) (w : World) (h : Cur w g a c bs) (hM : OM w B C a2 c2 xss) (hB : g + 1 ≤ B) (hn : -1 ≤ n ∧ n ≤ 1000000000001) (hx : xss.length ≤ 60) (hr : ∀ xs ∈ xss, xs.length ≤ 81) :
    Calls Try.prog 136 #[curV g, bsV n a2 c2 xss] w (DrP g a c bs okP w) := by
  have hg := h.lt
  obtain ⟨w0, hw0⟩ : ∃ w0, w0 = (w.alloc (.cells #[.int .i64 n, .slice a2 xss.length c2] 53)).alloc (.cells #[.int .i64 0, .slice none 0 0, .slice none 0 0] 35) := ⟨_, rfl⟩
  have x0 : Ext w w0 := by rw [hw0]; exact ((Ext.refl w).alloc _).alloc _
  have z0 : w.heap.size + 2 ≤ w0.heap.size ∧ w0.heap.size ≤ w.heap.size + 2 := by rw [hw0]; simp
  have c0 : w0.cell? ⟨w.heap.size, 0, none⟩ = some (.int .i64 n) := by rw [hw0]; simp
  have c1 : w0.cell? ⟨w.heap.size, 1, none⟩ = some (.slice a2 xss.length c2) := by rw [hw0]; simp
  have d0 : w0.cell? ⟨w.heap.size + 1, 0, none⟩ = some (.int .i64 0) := by rw [hw0]; simp
  have d1 : w0.cell? ⟨w.heap.size + 1, 1, none⟩ = some (.slice none 0 0) := by rw [hw0]; simp
  have d2 : w0.cell? ⟨w.heap.size + 1, 2, none⟩ = some (.slice none 0 0) := by rw [hw0]; simp
  have d3 : ∀ j, w0.frozen? ⟨w.heap.size + 1, j, none⟩ = false := fun j => by rw [hw0]; simp
  have M0 := Lib.hid (hM.ext x0)
  have KE := Lib.hid (fun W (hW : Ext w W) => h.ext hW)
  have HR : Hid (∀ xs ∈ xss, xs.length ≤ 1048576) := fun xs hx => by have := hr xs hx; omega
  have CV := Lib.hid (fun W (hW : Cur W g a c bs) => l5Vector_ok g a c bs xss.length W hW (by omega))
  have CC : Hid (∀ W, Span g (g + 1) w0 W → ∀ (a5 : Option Addr) (c5 : Nat) (vs : List Int), Vals W a5 (I vs) → vs.length = xss.length → Calls Try.prog 103 #[bsV n a2 c2 xss, .slice a5 vs.length c5] W (NP W)) :=
    fun W hW a5 c5 vs hv hl => (specCodePacket_ok n a2 c2 xss a5 c5 vs W ((M0.out.span hW (.inr (by omega))).reads) hv (by omega) HR.out (by omega)).mono fun e w' ⟨a3, c3, a4, c4, h1, h2, h3, h4, h5⟩ =>
      ⟨_, _, _, _, a3, c3, a4, c4, h1, ⟨by unfold codeN; split <;> omega, by have := codeC_len n xss vs; omega, by have := codeP_len n xss vs; omega, codeP_AllEl _ _ _⟩, h2, h3, h4, h5⟩
  clear h hM hr
  go_enter Try.func136, Try.ntmps136
  go_wp2_with fail
  rw [← hw0]
  clear hw0
  obtain ⟨Z, hZ⟩ : ∃ Z : Obj, Hid (Z = .cells #[.int .i64 0, .slice none 0 0, .slice none 0 0] 35) := ⟨_, rfl⟩
  have K0 := Lib.hid (KE.out _ x0.drew)
  have KZ := Lib.hid (KE.out _ (x0.alloc (.cells #[.int .i64 0, .slice none 0 0, .slice none 0 0] 35)).drew)
  have Y0 : Hid (Span g (g + 1) w0 w0.drew) := Span.of_ext (Ext.refl _).drew
  have YZ : Hid (Span g (g + 1) w0 (w0.alloc (.cells #[.int .i64 0, .slice none 0 0, .slice none 0 0] 35)).drew) := Span.of_ext ((Ext.refl _).alloc _).drew
  have S0 : Hid (∀ W, Span g (g + 1) w0 W → W.cell? ⟨w.heap.size, 0, none⟩ = some (.int .i64 n) ∧ W.cell? ⟨w.heap.size, 1, none⟩ = some (.slice a2 xss.length c2)) := fun W hW => ⟨hW.cell c0 (.inr hg), hW.cell c1 (.inr hg)⟩
  have E0 : Ext w w0.drew := x0.drew
  have EZ : Ext w (w0.alloc (.cells #[.int .i64 0, .slice none 0 0, .slice none 0 0] 35)).drew := (x0.alloc _).drew
  have LZ : Hid (g < w0.heap.size) := Lib.hid (by omega)
  have T0 : Bx3 w0 (w.heap.size + 1) (.int .i64 0) (.slice none 0 0) (.slice none 0 0) := ⟨d0, d1, d2, d3⟩
  clear KE d0 d1 d2 d3
  go_region_held3 (fun w' => w'.cell? ⟨w.heap.size, 0, none⟩ = some (.int .i64 n) ∧ w'.cell? ⟨w.heap.size, 1, none⟩ = some (.slice a2 xss.length c2))
    (first | exact S0.out _ y2 | exact S0.out _ (y2.alloc _) | exact S0.out _ y1 | exact S0.out _ (y1.alloc _) | exact S0.out _ Y0.out | exact S0.out _ YZ.out | exact S0.out _ (y2s _ _ _ _ (Nat.le_refl _)) | exact S0.out _ (y2s _ _ _ _ zv1) | go_keep)
    (first
      | (go_at_call 103; (first | (with_reducible refine CX1.out.mono ?_) | (with_reducible refine CX2.out.mono ?_)); rintro e v2 ⟨m, cs, ps, ok, a3, c3, a4, c4, rfl, HP, o3, o4, hap, e2⟩; have y2 : Span g (g + 1) w0 v2 := (by first | exact y1.trans (Span.of_ext e2) | exact (y1.alloc _).trans (Span.of_ext e2)); have y2s : ∀ z u v x, w0.heap.size ≤ z → Span g (g + 1) w0 (((v2.setCell ⟨z, 0, none⟩ u).setCell ⟨z, 1, none⟩ v).setCell ⟨z, 2, none⟩ x) := (fun z u v x hz => ((y2.newer (Span.one u) hz).newer (Span.one v) hz).newer (Span.one x) hz); (first | (have eC : Ext v1 v2 := e2) | (have eB := zbox (W := v1) (v := v2) e2; obtain ⟨r0, r1, r2, r30, r31, r32⟩ := eB)); (first | (have eA := zboxS (W := w0) (v := v1) (u := v2) (g := g) s1 LZ.out e2; obtain ⟨r0, r1, r2, r30, r31, r32⟩ := eA) | skip); have zv2 := e2.size_le; have zv1 := y1.size; (try (simp at zv2)))
      | (go_at_call 125; (with_reducible refine (CV.out _ (by first | exact K0.out | exact KZ.out)).mono ?_); rintro e v1 ⟨a5, c5, vs, rfl, ⟨hvl, hva⟩, o5, k5, s1⟩; have HVL := Lib.hid hvl; clear hvl hva; have y1 : Span g (g + 1) w0 v1 := (by first | exact Y0.out.trans s1 | exact YZ.out.trans s1); have CX1 := Lib.hid (CC.out _ y1 a5 c5 vs o5.vals HVL.out); have CX2 := Lib.hid (CC.out _ (y1.alloc (.cells #[.int .i64 0, .slice none 0 0, .slice none 0 0] 35)) a5 c5 vs (o5.vals.ext ((Ext.refl v1).alloc (.cells #[.int .i64 0, .slice none 0 0, .slice none 0 0] 35))) HVL.out)))
  · have T2 := T0.span y2 (.inr (by omega))
    have P4 : ∃ W4, Hid (W4 = v2.alloc (.cells #[.int .i64 m, .slice a3 cs.length c3, .slice a4 ps.length c4] 35)) ∧ Pst g a c bs w W4 v2.heap.size m a3 c3 cs a4 c4 ps :=
      ⟨_, rfl, ⟨by simp, by simp, by simp⟩, T2.ext ((Ext.refl v2).alloc _), (o3.ext ((Ext.refl v2).alloc _)).more (by omega), (o4.ext ((Ext.refl v2).alloc _)).more (by omega), (k5.ext e2).ext ((Ext.refl v2).alloc _), ((Span.of_ext x0).trans y2).alloc _, by omega⟩
    obtain ⟨W4, hW4, ⟨u0, u1, u2⟩, T4, q3, q4, k4, s4, hz⟩ := P4
    rw [← hW4.out]
    have nb1 : v2.heap.size ≠ w.heap.size + 1 := by omega
    have nb2 : w.heap.size + 1 ≠ v2.heap.size := by omega
    have Q3 := (((q3.setCell (p := ⟨w.heap.size + 1, 0, none⟩) (by show w.heap.size + 1 < _; omega) (.int .i64 m)).setCell (p := ⟨w.heap.size + 1, 1, none⟩) (by show w.heap.size + 1 < _; omega) (.slice a3 cs.length c3)).setCell (p := ⟨w.heap.size + 1, 2, none⟩) (by show w.heap.size + 1 < _; omega) (.slice a4 ps.length c4)).more (B' := w.heap.size) (by omega)
    have Q4 := (((q4.setCell (p := ⟨w.heap.size + 1, 0, none⟩) (by show w.heap.size + 1 < _; omega) (.int .i64 m)).setCell (p := ⟨w.heap.size + 1, 1, none⟩) (by show w.heap.size + 1 < _; omega) (.slice a3 cs.length c3)).setCell (p := ⟨w.heap.size + 1, 2, none⟩) (by show w.heap.size + 1 < _; omega) (.slice a4 ps.length c4)).more (B' := w.heap.size) (by omega)
    have QK := ((k4.span (Span.one (p := w.heap.size + 1) (j := 0) (.int .i64 m)) (by omega)).span (Span.one (p := w.heap.size + 1) (j := 1) (.slice a3 cs.length c3)) (by omega)).span (Span.one (p := w.heap.size + 1) (j := 2) (.slice a4 ps.length c4)) (by omega)
    have QS := ((s4.newer (Span.one (p := w.heap.size + 1) (j := 0) (.int .i64 m)) (by omega)).newer (Span.one (p := w.heap.size + 1) (j := 1) (.slice a3 cs.length c3)) (by omega)).newer (Span.one (p := w.heap.size + 1) (j := 2) (.slice a4 ps.length c4)) (by omega)
    obtain ⟨t40, t41, t42, t43⟩ := T4
    have t430 := t43 0
    have t431 := t43 1
    have t432 := t43 2
    clear hW4 q3 q4 k4 s4 t43
    go_wp2_with fail
    refine bodyPost_ret (v := pkV m a3 c3 cs a4 c4 ps) (by simp only [results, Try.results136]; go_simp) rfl ?_
    exact ⟨m, a3, c3, cs, a4, c4, ps, rfl, HP.out, Q3, Q4, hap, QK, QS⟩
  · have T2 := T0.span y2 (.inr (by omega))
    have P4 : ∃ W4, Hid (W4 = (((v2.setCell ⟨v1.heap.size, 0, none⟩ (.int .i64 m)).setCell ⟨v1.heap.size, 1, none⟩ (.slice a3 cs.length c3)).setCell ⟨v1.heap.size, 2, none⟩ (.slice a4 ps.length c4))) ∧ Pst g a c bs w W4 v1.heap.size m a3 c3 cs a4 c4 ps :=
      ⟨_, rfl, set3 r0 r1 r2 _ _ _, (((T2.span (Span.one (p := v1.heap.size) (j := 0) (.int .i64 m)) (.inl (by omega))).span (Span.one (p := v1.heap.size) (j := 1) (.slice a3 cs.length c3)) (.inl (by omega))).span (Span.one (p := v1.heap.size) (j := 2) (.slice a4 ps.length c4)) (.inl (by omega))), ((((o3.setCell (p := ⟨v1.heap.size, 0, none⟩) (by show v1.heap.size < _; first | omega | (simp; done) | (simp; omega)) _).setCell (p := ⟨v1.heap.size, 1, none⟩) (by show v1.heap.size < _; first | omega | (simp; done) | (simp; omega)) _).setCell (p := ⟨v1.heap.size, 2, none⟩) (by show v1.heap.size < _; first | omega | (simp; done) | (simp; omega)) _)).more (by first | omega | (simp; omega)), ((((o4.setCell (p := ⟨v1.heap.size, 0, none⟩) (by show v1.heap.size < _; first | omega | (simp; done) | (simp; omega)) _).setCell (p := ⟨v1.heap.size, 1, none⟩) (by show v1.heap.size < _; first | omega | (simp; done) | (simp; omega)) _).setCell (p := ⟨v1.heap.size, 2, none⟩) (by show v1.heap.size < _; first | omega | (simp; done) | (simp; omega)) _)).more (by first | omega | (simp; omega)), (((((k5.ext ((Ext.refl v1).alloc _)).ext e2).span (Span.one (p := v1.heap.size) (j := 0) (.int .i64 m)) (by omega)).span (Span.one (p := v1.heap.size) (j := 1) (.slice a3 cs.length c3)) (by omega)).span (Span.one (p := v1.heap.size) (j := 2) (.slice a4 ps.length c4)) (by omega)), (Span.of_ext x0).trans (y2s _ _ _ _ zv1), by omega⟩
    obtain ⟨W4, hW4, ⟨u0, u1, u2⟩, T4, q3, q4, k4, s4, hz⟩ := P4
    rw [← hW4.out]
    have nb1 : v1.heap.size ≠ w.heap.size + 1 := by omega
    have nb2 : w.heap.size + 1 ≠ v1.heap.size := by omega
    have Q3 := (((q3.setCell (p := ⟨w.heap.size + 1, 0, none⟩) (by show w.heap.size + 1 < _; omega) (.int .i64 m)).setCell (p := ⟨w.heap.size + 1, 1, none⟩) (by show w.heap.size + 1 < _; omega) (.slice a3 cs.length c3)).setCell (p := ⟨w.heap.size + 1, 2, none⟩) (by show w.heap.size + 1 < _; omega) (.slice a4 ps.length c4)).more (B' := w.heap.size) (by omega)
    have Q4 := (((q4.setCell (p := ⟨w.heap.size + 1, 0, none⟩) (by show w.heap.size + 1 < _; omega) (.int .i64 m)).setCell (p := ⟨w.heap.size + 1, 1, none⟩) (by show w.heap.size + 1 < _; omega) (.slice a3 cs.length c3)).setCell (p := ⟨w.heap.size + 1, 2, none⟩) (by show w.heap.size + 1 < _; omega) (.slice a4 ps.length c4)).more (B' := w.heap.size) (by omega)
    have QK := ((k4.span (Span.one (p := w.heap.size + 1) (j := 0) (.int .i64 m)) (by omega)).span (Span.one (p := w.heap.size + 1) (j := 1) (.slice a3 cs.length c3)) (by omega)).span (Span.one (p := w.heap.size + 1) (j := 2) (.slice a4 ps.length c4)) (by omega)
    have QS := ((s4.newer (Span.one (p := w.heap.size + 1) (j := 0) (.int .i64 m)) (by omega)).newer (Span.one (p := w.heap.size + 1) (j := 1) (.slice a3 cs.length c3)) (by omega)).newer (Span.one (p := w.heap.size + 1) (j := 2) (.slice a4 ps.length c4)) (by omega)
    obtain ⟨t40, t41, t42, t43⟩ := T4
    have t430 := t43 0
    have t431 := t43 1
    have t432 := t43 2
    clear hW4 q3 q4 k4 s4 t43
    go_wp2_with fail
    refine bodyPost_ret (v := pkV m a3 c3 cs a4 c4 ps) (by simp only [results, Try.results136]; go_simp) rfl ?_
    exact ⟨m, a3, c3, cs, a4, c4, ps, rfl, HP.out, Q3, Q4, hap, QK, QS⟩
  · have T2 := T0.span y2 (.inr (by omega))
    have hzz : w0.heap.size < v1.heap.size := by
      have := s1.size
      simp at this
      omega
    have P4 : ∃ W4, Hid (W4 = (((v2.setCell ⟨w0.heap.size, 0, none⟩ (.int .i64 m)).setCell ⟨w0.heap.size, 1, none⟩ (.slice a3 cs.length c3)).setCell ⟨w0.heap.size, 2, none⟩ (.slice a4 ps.length c4))) ∧ Pst g a c bs w W4 w0.heap.size m a3 c3 cs a4 c4 ps :=
      ⟨_, rfl, set3 r0 r1 r2 _ _ _, (((T2.span (Span.one (p := w0.heap.size) (j := 0) (.int .i64 m)) (.inl (by omega))).span (Span.one (p := w0.heap.size) (j := 1) (.slice a3 cs.length c3)) (.inl (by omega))).span (Span.one (p := w0.heap.size) (j := 2) (.slice a4 ps.length c4)) (.inl (by omega))), ((((o3.setCell (p := ⟨w0.heap.size, 0, none⟩) (by show w0.heap.size < _; first | omega | (simp; done) | (simp; omega)) _).setCell (p := ⟨w0.heap.size, 1, none⟩) (by show w0.heap.size < _; first | omega | (simp; done) | (simp; omega)) _).setCell (p := ⟨w0.heap.size, 2, none⟩) (by show w0.heap.size < _; first | omega | (simp; done) | (simp; omega)) _)).more (by first | omega | (simp; omega)), ((((o4.setCell (p := ⟨w0.heap.size, 0, none⟩) (by show w0.heap.size < _; first | omega | (simp; done) | (simp; omega)) _).setCell (p := ⟨w0.heap.size, 1, none⟩) (by show w0.heap.size < _; first | omega | (simp; done) | (simp; omega)) _).setCell (p := ⟨w0.heap.size, 2, none⟩) (by show w0.heap.size < _; first | omega | (simp; done) | (simp; omega)) _)).more (by first | omega | (simp; omega)), ((((k5.ext e2).span (Span.one (p := w0.heap.size) (j := 0) (.int .i64 m)) (by omega)).span (Span.one (p := w0.heap.size) (j := 1) (.slice a3 cs.length c3)) (by omega)).span (Span.one (p := w0.heap.size) (j := 2) (.slice a4 ps.length c4)) (by omega)), (Span.of_ext x0).trans (y2s _ _ _ _ (Nat.le_refl _)), by omega⟩
    obtain ⟨W4, hW4, ⟨u0, u1, u2⟩, T4, q3, q4, k4, s4, hz⟩ := P4
    rw [← hW4.out]
    have nb1 : w0.heap.size ≠ w.heap.size + 1 := by omega
    have nb2 : w.heap.size + 1 ≠ w0.heap.size := by omega
    have Q3 := (((q3.setCell (p := ⟨w.heap.size + 1, 0, none⟩) (by show w.heap.size + 1 < _; omega) (.int .i64 m)).setCell (p := ⟨w.heap.size + 1, 1, none⟩) (by show w.heap.size + 1 < _; omega) (.slice a3 cs.length c3)).setCell (p := ⟨w.heap.size + 1, 2, none⟩) (by show w.heap.size + 1 < _; omega) (.slice a4 ps.length c4)).more (B' := w.heap.size) (by omega)
    have Q4 := (((q4.setCell (p := ⟨w.heap.size + 1, 0, none⟩) (by show w.heap.size + 1 < _; omega) (.int .i64 m)).setCell (p := ⟨w.heap.size + 1, 1, none⟩) (by show w.heap.size + 1 < _; omega) (.slice a3 cs.length c3)).setCell (p := ⟨w.heap.size + 1, 2, none⟩) (by show w.heap.size + 1 < _; omega) (.slice a4 ps.length c4)).more (B' := w.heap.size) (by omega)
    have QK := ((k4.span (Span.one (p := w.heap.size + 1) (j := 0) (.int .i64 m)) (by omega)).span (Span.one (p := w.heap.size + 1) (j := 1) (.slice a3 cs.length c3)) (by omega)).span (Span.one (p := w.heap.size + 1) (j := 2) (.slice a4 ps.length c4)) (by omega)
    have QS := ((s4.newer (Span.one (p := w.heap.size + 1) (j := 0) (.int .i64 m)) (by omega)).newer (Span.one (p := w.heap.size + 1) (j := 1) (.slice a3 cs.length c3)) (by omega)).newer (Span.one (p := w.heap.size + 1) (j := 2) (.slice a4 ps.length c4)) (by omega)
    obtain ⟨t40, t41, t42, t43⟩ := T4
    have t430 := t43 0
    have t431 := t43 1
    have t432 := t43 2
    clear hW4 q3 q4 k4 s4 t43
    go_wp2_with fail
    refine bodyPost_ret (v := pkV m a3 c3 cs a4 c4 ps) (by simp only [results, Try.results136]; go_simp) rfl ?_
    exact ⟨m, a3, c3, cs, a4, c4, ps, rfl, HP.out, Q3, Q4, hap, QK, QS⟩

end Go.Proofs.Ytkegknophppdgaa
