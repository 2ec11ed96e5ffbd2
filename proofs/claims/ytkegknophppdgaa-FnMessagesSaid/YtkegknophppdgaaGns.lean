/- Slices of generations and of packets: the kinds; append; make. -/
import Derived.Test.YtkegknophppdgaaKnd
import Derived.Test.YtkegknophppdgaaPairs
import Derived.Test.YtkegknophppdgaaPacket
namespace Go.Proofs.Ytkegknophppdgaa
open Go.RowKit
set_option linter.unusedVariables false
set_option maxRecDepth 20000

theorem OM.okept {w w' : World} {B B2 : Nat} {a : Option Addr} {c : Nat} {xss : List (List Int)} (h : OM w B B2 a c xss) (hb : ∀ k, k < w.heap.size → B ≤ k → k < B2 → w'.heap[k]? = w.heap[k]?) : OM w' B B2 a c xss := by
  obtain ⟨rs, q1, q2, q3⟩ := h
  refine ⟨rs, ownsRow_of_block q1 fun k hk => hb k (ownsRow_block q1 k hk).2 (ownsRow_block q1 k hk).1 (q2 k hk), q2, q3.len, fun i r xs hr hx => ?_, q3.apart⟩
  have ho := q3.row i r xs hr hx
  exact ⟨ho.1.of_block fun k hk => hb k (ho.1.block k hk).2 (ho.1.block k hk).1 (ho.2 k hk), ho.2⟩
theorem OI.okept {w w' : World} {B B2 : Nat} {a : Option Addr} {c : Nat} {xs : List Int} (h : OI w B B2 a c xs) (hb : ∀ k, k < w.heap.size → B ≤ k → k < B2 → w'.heap[k]? = w.heap[k]?) : OI w' B B2 a c xs :=
  ⟨h.1.of_block fun k hk => hb k (h.1.block k hk).2 (h.1.block k hk).1 (h.2 k hk), h.2⟩

/-- Generations. -/
abbrev Gn := Int × List (List Int)
def GK : Knd Gn (Option Addr × Nat) where
  e := 53
  sz := 2
  zh := (none, 0)
  zx := (0, [])
  cells h x := [.int .i64 x.1, .slice h.1 x.2.length h.2]
  own w B B2 h x := OM w B B2 h.1 h.2 x.2
  read w h x := MatR w h.1 x.2
theorem GK_ok : GK.Ok where
  pos := by decide
  len _ _ := rfl
  one h x u hu := by
    simp [GK] at hu
    rcases hu with rfl | rfl <;> rfl
  oext h he := OM.ext h he
  ospan h hs hd := OM.span h hs hd
  okept h hb _ := OM.okept h hb
  rext h he := MatR.ext h he
  oread h := OM.reads h

/-- Packets. -/
abbrev Pk := Int × List Int × List Int
def PK : Knd Pk ((Option Addr × Nat) × (Option Addr × Nat)) where
  e := 35
  sz := 3
  zh := ((none, 0), (none, 0))
  zx := (0, [], [])
  cells h x := [.int .i64 x.1, .slice h.1.1 x.2.1.length h.1.2, .slice h.2.1 x.2.2.length h.2.2]
  own w B B2 h x := OPk w B B2 h.1.1 h.1.2 x.2.1 h.2.1 h.2.2 x.2.2
  read w h x := Vals w h.1.1 (I x.2.1) ∧ Vals w h.2.1 (I x.2.2)
theorem PK_ok : PK.Ok where
  pos := by decide
  len _ _ := rfl
  one h x u hu := by
    simp [PK] at hu
    rcases hu with rfl | rfl | rfl <;> rfl
  oext h he := OPk.ext h he
  ospan h hs hd := OPk.span h hs hd
  okept h hb _ := ⟨OI.okept h.left hb, OI.okept h.right hb, h.apart⟩
  rext h he := ⟨h.1.ext he, h.2.ext he⟩
  oread h := ⟨OPk.one h, OPk.two h⟩

theorem infoGn : (Try.prog.info? 53).map (fun i => (i.zero, i.size, i.bytes)) = some (some (.agg #[.int .i64 0, .slice none 0 0]), 2, 32) := by kernel_rfl

theorem infoPk : (Try.prog.info? 35).map (fun i => (i.zero, i.size, i.bytes)) = some (some (.agg #[.int .i64 0, .slice none 0 0, .slice none 0 0]), 3, 56) := by kernel_rfl

theorem made_zers {α η : Type} {K : Knd α η} (OK : K.Ok) (cs : Array Value) (hc : cs.toList = K.cells K.zh K.zx) (n : Nat) : (madeCells cs (n * K.sz)).toList = zers K n := by
  have hl : cs.size = K.sz := by rw [← Array.length_toList, hc, OK.len]
  apply List.ext_getElem?
  intro t
  by_cases ht : t < n * K.sz
  · have hd := Nat.div_add_mod t K.sz
    have hm := Nat.mod_lt t OK.pos
    have hq : t / K.sz < n := Nat.div_lt_of_lt_mul (by rw [Nat.mul_comm]; exact ht)
    have e2 : (zers K n)[t]? = (K.cells K.zh K.zx)[t % K.sz]? := by
      have := flatten_get (s := K.sz) (l := List.replicate n (K.cells K.zh K.zx)) (i := t / K.sz) (x := K.cells K.zh K.zx) (t % K.sz) (fun y hy => by rw [(List.mem_replicate.1 hy).2]; exact OK.len _ _) (by rw [List.getElem?_replicate, if_pos hq]) hm
      rw [show t / K.sz * K.sz + t % K.sz = t by rw [Nat.mul_comm]; exact hd] at this
      exact this
    rw [e2, ← hc]
    have hb : t % K.sz < cs.size := by omega
    simp [madeCells, ht, hl]
    rw [getElem!_pos cs _ hb, Array.getElem?_eq_getElem hb]
  · rw [List.getElem?_eq_none (by simp [madeCells]; omega), List.getElem?_eq_none (by rw [zers_len OK]; omega)]

section
variable {α η : Type} {K : Knd α η}
/-- A call hands back a new slice of elements. -/
def NewS (K : Knd α η) (w : World) (xs : List α) (e : Ending) (w' : World) : Prop := ∃ a c, e = .returned (.slice a xs.length c) ∧ OS K w' w.heap.size w'.heap.size a c xs.length xs ∧ Ext w w'

theorem run_appS (OK : K.Ok) (t ty : TypeId) (i : TypeInfo) (z : Value) (bytes : Nat) (ht : Try.prog.underlying t = some (.slice K.e)) (hi : Try.prog.info? K.e = some i) (hz : i.zero = some z) (hsize : i.size = K.sz) (hby : i.bytes = bytes) (hzs : z.cells.size = K.sz) (hbl : bytes ≤ 64)
    (w : World) (B C : Nat) (a0 : Option Addr) (c : Nat) (xs : List α) (hown : OS K w B C a0 c xs.length xs) (A : Option Addr) (d : Nat) (k : η) (y : α) (hv : Vals w A (K.cells k y)) (lo hi' : Nat) (hrow : K.own w lo hi' k y) (hlo : C ≤ lo) (hlh : lo ≤ hi') (hhi : hi' ≤ w.heap.size) (hBC : B ≤ C)
    (yss : List α) (hy : yss = xs ++ [y]) (h63 : xs.length + 1 ≤ 1099511627776) :
    ∃ a' c' w', (Builtin.append_ #[t, t] ty #[.slice a0 xs.length c, .slice A 1 d]).run Try.prog w = .ok (.slice a' yss.length c') w' ∧ OS K w' B w'.heap.size a' c' yss.length yss ∧ w.grownBy w' (blockOf a0) ∧ (blockOf a' = blockOf a0 ∨ blockOf a' = some w.heap.size) := by
  obtain ⟨hs, rg, h1, h2, h3, h4, h5, h6, h7⟩ := hown
  rw [Nat.sub_self, show zers K 0 = [] from rfl, List.append_nil] at h4
  have hlen := OK.len k y
  have hpos := OK.pos
  obtain ⟨b, o, rfl, _⟩ := hv 0 (by omega)
  have hnews : ∀ j u, (K.cells k y)[j]? = some u → w.cell? ((⟨b, o, none⟩ : Addr).add j) = some u := by
    intro j u hu
    obtain ⟨hj, rfl⟩ := List.getElem?_eq_some_iff.1 hu
    obtain ⟨b', o', hab, hc⟩ := hv j hj
    injection hab with hab
    injection hab with e1 e2
    subst e1 e2
    rw [Addr.add_lit]
    exact hc
  obtain ⟨v', w', hr, g1, g2, g3, g4⟩ := run_append_own_at (P := Try.prog) w B t ty K.e i z K.sz bytes ht hi hz hsize hby hzs hpos _ xs.length _ h4 ⟨b, o, none⟩ 1 d (K.cells k y) (by omega) hnews (OK.one k y) (by unfold maxLen; omega) (Nat.le_trans (Nat.mul_le_mul h63 hbl) (by omega)) (by omega)
  rw [ownBlock_slice] at g2 g4
  rcases g1.2 with ⟨rfl, hn0⟩ | ⟨g, cap, cur, rfl, rest⟩
  · omega
  · have hl : yss.length = xs.length + 1 := by rw [hy]; simp
    refine ⟨some ⟨g, 0, none⟩, cap, w', by rw [hl]; exact hr, ?_, g2, g4⟩
    have := OS.grown OK h1 h2 h5 h6 h7 hrow hlo hlh hhi hBC g1 g2 g4
    rw [← hy, ← hl] at this
    exact this

theorem wpList_appS {ops : Array Oper} {rest : List Oper} {o : Oper} {a : Act} {Q : Exit → Act → World → Prop} (OK : K.Ok) (t : TypeId) (i : TypeInfo) (z : Value) (bytes : Nat) (w : World) (hgd : o.guard = none) (s x : Operand)
    (ho : o.op = .call { callee := .builtin .append, args := #[s, x], argTypes := #[t, t] }) (ht : Try.prog.underlying t = some (.slice K.e)) (hi : Try.prog.info? K.e = some i) (hz : i.zero = some z) (hsize : i.size = K.sz) (hby : i.bytes = bytes) (hzs : z.cells.size = K.sz) (hbl : bytes ≤ 64)
    (B C : Nat) (a0 : Option Addr) (c : Nat) (xs : List α) (hs : a.eval s = .slice a0 xs.length c) (hown : OS K w B C a0 c xs.length xs) (A : Option Addr) (d : Nat) (k : η) (y : α) (hx : a.eval x = .slice A 1 d) (hv : Vals w A (K.cells k y)) (lo hi' : Nat) (hrow : K.own w lo hi' k y) (hlo : C ≤ lo) (hlh : lo ≤ hi') (hhi : hi' ≤ w.heap.size) (hBC : B ≤ C)
    (yss : List α) (hy : yss = xs ++ [y]) (h63 : xs.length + 1 ≤ 1099511627776)
    (h : ∀ a' c' w', OS K w' B w'.heap.size a' c' yss.length yss → w.grownBy w' (blockOf a0) → (blockOf a' = blockOf a0 ∨ blockOf a' = some w.heap.size) → wpList Try.prog ops Q rest (a.put o.dst (.slice a' yss.length c')) w') :
    wpList Try.prog ops Q (o :: rest) a w := by
  refine wpList_plain hgd fun J hJ => ?_
  obtain ⟨a', c', w', hr, h2, h3, h4⟩ := run_appS OK t o.type i z bytes ht hi hz hsize hby hzs hbl w B C a0 c xs hown A d k y hv lo hi' hrow hlo hlh hhi hBC yss hy h63
  unfold Oper.wp execOp
  simp only [ho, resolve, invoke, builtin, Sem.run_bind, Sem.run_pure, Result.andThen_ok, List.map_toArray, List.map_cons, List.map_nil, hs, hx, hr]
  exact hJ _ _ (h a' c' w' h2 h3 h4)

theorem step_appS {ops : Array Oper} {o : Oper} {a : Act} {J : Act → World → Prop} {Q : Exit → Act → World → Prop} {E : Prop} (OK : K.Ok) (t : TypeId) (i : TypeInfo) (z : Value) (bytes : Nat) (w : World) (hgd : o.guard = none) (s x : Operand)
    (ho : o.op = .call { callee := .builtin .append, args := #[s, x], argTypes := #[t, t] }) (ht : Try.prog.underlying t = some (.slice K.e)) (hi : Try.prog.info? K.e = some i) (hz : i.zero = some z) (hsize : i.size = K.sz) (hby : i.bytes = bytes) (hzs : z.cells.size = K.sz) (hbl : bytes ≤ 64)
    (B C : Nat) (a0 : Option Addr) (c : Nat) (xs : List α) (hs : a.eval s = .slice a0 xs.length c) (hown : OS K w B C a0 c xs.length xs) (A : Option Addr) (d : Nat) (k : η) (y : α) (hx : a.eval x = .slice A 1 d) (hv : Vals w A (K.cells k y)) (lo hi' : Nat) (hrow : K.own w lo hi' k y) (hlo : C ≤ lo) (hlh : lo ≤ hi') (hhi : hi' ≤ w.heap.size) (hBC : B ≤ C)
    (yss : List α) (hy : yss = xs ++ [y]) (h63 : xs.length + 1 ≤ 1099511627776)
    (h : ∀ a' c' w', OS K w' B w'.heap.size a' c' yss.length yss → w.grownBy w' (blockOf a0) → (blockOf a' = blockOf a0 ∨ blockOf a' = some w.heap.size) → J (a.put o.dst (.slice a' yss.length c')) w') :
    if Region.wanted o (yielded ops a.tmps) = true then Oper.wp Try.prog o a w J Q else E := by
  have hw : Region.wanted o (yielded ops a.tmps) = true := by simp [Region.wanted, hgd]
  rw [if_pos hw]
  obtain ⟨a', c', w', hr, h2, h3, h4⟩ := run_appS OK t o.type i z bytes ht hi hz hsize hby hzs hbl w B C a0 c xs hown A d k y hv lo hi' hrow hlo hlh hhi hBC yss hy h63
  unfold Oper.wp execOp
  simp only [ho, resolve, invoke, builtin, Sem.run_bind, Sem.run_pure, Result.andThen_ok, List.map_toArray, List.map_cons, List.map_nil, hs, hx, hr]
  exact h a' c' w' h2 h3 h4
end

/-- One generation of a slice, in plain words. -/
theorem SR.gn {w : World} {a : Option Addr} {gs : List Gn} (h : SR GK w a gs) {k : Nat} (hk : k < gs.length) :
    ∃ b o ra rc n xss, a = some ⟨b, o, none⟩ ∧ b < w.heap.size ∧ Hid (gs[k]? = some (n, xss)) ∧ w.cell? ⟨b, o + k * 2, none⟩ = some (.int .i64 n) ∧ w.cell? ⟨b, o + k * 2 + 1, none⟩ = some (.slice ra xss.length rc) ∧ MatR w ra xss := by
  obtain ⟨b, o, ⟨ra, rc⟩, ⟨n, xss⟩, ha, hb, hx, hc, hr⟩ := h.at_ GK_ok hk
  exact ⟨b, o, ra, rc, n, xss, ha, hb, hx, hc 0 (by decide), hc 1 (by decide), hr⟩
theorem SR.pk {w : World} {a : Option Addr} {ps : List Pk} (h : SR PK w a ps) {k : Nat} (hk : k < ps.length) :
    ∃ b o ra rc sa sc n xs ys, a = some ⟨b, o, none⟩ ∧ b < w.heap.size ∧ Hid (ps[k]? = some (n, xs, ys)) ∧ w.cell? ⟨b, o + k * 3, none⟩ = some (.int .i64 n) ∧ w.cell? ⟨b, o + k * 3 + 1, none⟩ = some (.slice ra xs.length rc) ∧ w.cell? ⟨b, o + k * 3 + 2, none⟩ = some (.slice sa ys.length sc) ∧ Vals w ra (I xs) ∧ Vals w sa (I ys) := by
  obtain ⟨b, o, ⟨⟨ra, rc⟩, ⟨sa, sc⟩⟩, ⟨n, xs, ys⟩, ha, hb, hx, hc, hr⟩ := h.at_ PK_ok hk
  exact ⟨b, o, ra, rc, sa, sc, n, xs, ys, ha, hb, hx, hc 0 (by decide), hc 1 (by decide), hc 2 (by decide), hr.1, hr.2⟩

section
variable {w : World} {B C C2 g c n k : Nat}
theorem OS.fillG {gs : List Gn} {ra : Option Addr} {rc : Nat} {m : Int} {xss : List (List Int)} (h : OS GK w B C (some ⟨g, 0, none⟩) c n gs) (hk : gs.length = k) (hx : k < n) (ho : OM w C C2 ra rc xss) (hBC : B ≤ C) (hC : C ≤ C2) :
    OS GK ((w.setCell ⟨g, k * 2, none⟩ (.int .i64 m)).setCell ⟨g, k * 2 + 1, none⟩ (.slice ra xss.length rc)) B C2 (some ⟨g, 0, none⟩) c n (gs ++ [(m, xss)]) := by
  subst hk
  exact OS.fill (k := (ra, rc)) (x := (m, xss)) GK_ok h hx ho hBC hC
theorem OS.nextG {gs : List Gn} (h : OS GK w B C (some ⟨g, 0, none⟩) c n gs) (hk : gs.length = k) (hx : k < n) :
    w.cell? ⟨g, k * 2, none⟩ = some (.int .i64 0) ∧ w.cell? ⟨g, k * 2 + 1, none⟩ = some (.slice none 0 0) ∧ w.frozen? ⟨g, k * 2, none⟩ = false ∧ w.frozen? ⟨g, k * 2 + 1, none⟩ = false := by
  subst hk
  obtain ⟨h1, h2⟩ := OS.next GK_ok h hx
  exact ⟨h1 0 (by decide), h1 1 (by decide), h2 _, h2 _⟩
theorem OS.fillP {ps : List Pk} {ra sa : Option Addr} {rc sc : Nat} {m : Int} {xs ys : List Int} (h : OS PK w B C (some ⟨g, 0, none⟩) c n ps) (hk : ps.length = k) (hx : k < n) (ho : OPk w C C2 ra rc xs sa sc ys) (hBC : B ≤ C) (hC : C ≤ C2) :
    OS PK (((w.setCell ⟨g, k * 3, none⟩ (.int .i64 m)).setCell ⟨g, k * 3 + 1, none⟩ (.slice ra xs.length rc)).setCell ⟨g, k * 3 + 2, none⟩ (.slice sa ys.length sc)) B C2 (some ⟨g, 0, none⟩) c n (ps ++ [(m, xs, ys)]) := by
  subst hk
  exact OS.fill (k := ((ra, rc), (sa, sc))) (x := (m, xs, ys)) PK_ok h hx ho hBC hC
theorem OS.nextP {ps : List Pk} (h : OS PK w B C (some ⟨g, 0, none⟩) c n ps) (hk : ps.length = k) (hx : k < n) :
    w.cell? ⟨g, k * 3, none⟩ = some (.int .i64 0) ∧ w.cell? ⟨g, k * 3 + 1, none⟩ = some (.slice none 0 0) ∧ w.cell? ⟨g, k * 3 + 2, none⟩ = some (.slice none 0 0) ∧ w.frozen? ⟨g, k * 3, none⟩ = false ∧ w.frozen? ⟨g, k * 3 + 1, none⟩ = false ∧ w.frozen? ⟨g, k * 3 + 2, none⟩ = false := by
  subst hk
  obtain ⟨h1, h2⟩ := OS.next PK_ok h hx
  exact ⟨h1 0 (by decide), h1 1 (by decide), h1 2 (by decide), h2 _, h2 _, h2 _⟩
end

end Go.Proofs.Ytkegknophppdgaa
