/- Contracts of readSparse, l12Sparse, DecodeCoefficients (program and reference); the law. -/
import Derived.Test.YtkegknophppdgaaDpW
import Derived.Test.YtkegknophppdgaaDcc
namespace Go.Proofs.Ytkegknophppdgaa
open Go.RowKit
set_option linter.unusedVariables false
set_option maxRecDepth 20000

/-- A call hands back new integers and a bool. -/
def NewIK (w : World) (xs : List Int) (ok : Bool) (e : Ending) (w' : World) : Prop := ∃ a c, e = .returned (.tuple #[.slice a xs.length c, .bool ok]) ∧ OwnI w' w.heap.size a c xs ∧ Ext w w'

def fillP (qs : List (Nat × Int)) (n : Nat) : List Int := unP qs ++ List.replicate (n - (unP qs).length) 0
theorem fillP_length {qs : List (Nat × Int)} {n : Nat} (h : (unP qs).length ≤ n) : (fillP qs n).length = n := by simp [fillP]; omega
theorem rep_set (m g : Nat) (x : Int) (h : g < m) : (List.replicate m (0 : Int)).set g x = List.replicate g 0 ++ [x] ++ List.replicate (m - (g + 1)) 0 := by
  apply List.ext_getElem?
  intro i
  rw [List.getElem?_set]
  by_cases h1 : g = i
  · subst h1
    simp [h]
  · rw [if_neg h1, List.getElem?_replicate, List.append_assoc]
    rcases Nat.lt_or_ge i g with h2 | h2
    · rw [List.getElem?_append_left (by simpa using h2), List.getElem?_replicate, if_pos (by omega), if_pos h2]
    · rw [List.getElem?_append_right (by simpa using h2), List.length_replicate, List.getElem?_append_right (by simp; omega), List.getElem?_replicate]
      simp only [List.length_singleton]
      by_cases h3 : i < m
      · rw [if_pos h3, if_pos (by omega)]
      · rw [if_neg h3, if_neg (by omega)]
theorem fillP_set {qs : List (Nat × Int)} {n g : Nat} {x : Int} (h : (unP qs).length + g < n) : (fillP qs n).set ((unP qs).length + g) x = fillP (qs ++ [(g, x)]) n ∧ (unP (qs ++ [(g, x)])).length = (unP qs).length + g + 1 := by
  have hl : (unP (qs ++ [(g, x)])).length = (unP qs).length + g + 1 := by rw [unP_snoc]; simp; omega
  refine ⟨?_, hl⟩
  unfold fillP
  rw [List.set_append_right _ _ (by omega), Nat.add_sub_cancel_left, rep_set _ _ _ (by omega), unP_snoc, List.append_assoc, List.append_assoc, List.append_assoc]
  congr 4
  rw [← unP_snoc, hl]
  omega

/-- Where a reader of the sparse form stands. -/
structure SpIn (bs : List Int) (t c : Nat) (k : Int) (n : Nat) (qs : List (Nat × Int)) (e : Nat) : Prop where
  hk : rdU bs t = some (k, c)
  rd : rdTo bs (t + c) (2 * qs.length) = some (flatP qs, e)
  le : e ≤ bs.length
  len : qs.length ≤ k.toNat
  fit : (unP qs).length ≤ n
theorem SpIn.start {bs : List Int} {t c : Nat} {k : Int} {n : Nat} (h : rdU bs t = some (k, c)) (hb : AllB bs) (ht : t ≤ bs.length) : SpIn bs t c k n [] (t + c) :=
  ⟨h, rfl, (rdU_le hb ht h).1, Nat.zero_le _, by simp [unP]⟩
theorem rdTo_pair {b : List Int} {e e' : Nat} {l : List Int} (hb : AllB b) (h : rdTo b e 2 = some (l, e')) : ∃ (g : Nat) (x : Int), l = [(g : Int), x] ∧ (g : Int) ≤ 1000000000000 ∧ 0 ≤ x ∧ x ≤ 1000000000000 := by
  obtain ⟨h1, h2, _⟩ := rdTo_sound hb _ _ _ h
  match l, h1 with
  | [g, x], _ =>
    have a1 := inR_true.1 (h2 g (by simp))
    have a2 := inR_true.1 (h2 x (by simp))
    obtain ⟨g, rfl⟩ := Int.eq_ofNat_of_zero_le a1.1
    exact ⟨g, x, rfl, a1.2, a2.1, a2.2⟩
theorem SpIn.step {bs : List Int} {t c : Nat} {k : Int} {n : Nat} {qs : List (Nat × Int)} {e e' g : Nat} {x : Int} (h : SpIn bs t c k n qs e) (hb : AllB bs) (hr : rdTo bs e 2 = some ([(g : Int), x], e')) (hlt : qs.length < k.toNat) (hf : (unP qs).length + g < n) : SpIn bs t c k n (qs ++ [(g, x)]) e' := by
  refine ⟨h.hk, ?_, (rdTo_le hb h.le hr).1, by simp; omega, by rw [(fillP_set hf (x := x)).2]; omega⟩
  rw [List.length_append, List.length_singleton, show 2 * (qs.length + 1) = 2 * qs.length + 2 by omega, rdTo_two h.rd, hr, flatP_snoc]
theorem SpIn.done {bs : List Int} {t c : Nat} {k : Int} {n : Nat} {qs : List (Nat × Int)} {e : Nat} {v : List Int} (h : SpIn bs t c k n qs e) (hq : qs.length = k.toNat) (hv : validV v = true) (hn : v.length = n) (hs : SpAt bs t v) : fillP qs n = v ∧ e = bs.length := by
  obtain ⟨_, _, s3, _⟩ := spAt_step hv hs h.hk h.rd h.len
  have := s3 hq
  refine ⟨?_, by have := h.le; omega⟩
  unfold fillP
  rw [← hn]
  exact this.1.symm
theorem SpIn.no {bs : List Int} {t c : Nat} {k : Int} {n : Nat} {qs : List (Nat × Int)} {e : Nat} {v : List Int} (h : SpIn bs t c k n qs e) (hq : qs.length < k.toNat) (hbad : rdTo bs e 2 = none ∨ ∃ (g : Nat) (x : Int) (e' : Nat), rdTo bs e 2 = some ([(g : Int), x], e') ∧ (n ≤ (unP qs).length + g ∨ x = 0)) (hv : validV v = true) (hn : v.length = n) : ¬ SpAt bs t v := fun hs => by
  obtain ⟨_, _, _, s4⟩ := spAt_step hv hs h.hk h.rd h.len
  obtain ⟨g, x, e', r1, r2, r3, _⟩ := s4 hq
  rcases hbad with hb | ⟨g', x', e'', hb, hb2⟩
  · rw [r1] at hb; cases hb
  · rw [r1] at hb
    simp only [Option.some.injEq, Prod.mk.injEq, List.cons.injEq, and_true] at hb
    obtain ⟨⟨h1, h2⟩, _⟩ := hb
    subst h2
    rcases hb2 with hb2 | hb2
    · omega
    · exact r2 hb2
theorem spAt_none {bs v : List Int} {t : Nat} (h : rdU bs t = none) (hv : validV v = true) : ¬ SpAt bs t v := fun hs => by
  obtain ⟨_, _, _, p, _⟩ := spAt_parts hv hs
  rw [h] at p
  cases p
theorem spAt_many {bs v : List Int} {t c : Nat} {k : Int} (h : rdU bs t = some (k, c)) (hk : (v.length : Int) < k) (hv : validV v = true) : ¬ SpAt bs t v := fun hs => by
  obtain ⟨_, _, _, p, _, _, _, q, _⟩ := spAt_parts hv hs
  rw [h] at p
  simp only [Option.some.injEq, Prod.mk.injEq] at p
  omega

/-- What readSparse leaves. -/
def SpLeft (bs : List Int) (t : Nat) (B B2 : Nat) (b : Option Addr) (d n : Nat) (w : World) (e : Ending) (w' : World) : Prop :=
  e = .returned (.tuple #[]) ∧ ∃ vs : List Int, vs.length = n ∧ OI w' B B2 b d vs ∧ Span B B2 w w' ∧ ∀ v, validV v = true → v.length = n → SpAt bs t v → vs = v

set_option maxHeartbeats 4000000 in
set_option maxRecDepth 100000 in
theorem readSparse_ok (B B2 : Nat) (a : Option Addr) (c : Nat) (bs : List Int) (t : Nat) (b : Option Addr) (d n : Nat) (w : World) (h : ∀ w', Span B B2 w w' → Vals w' a (Y bs)) (hb : AllB bs) (hl : bs.length ≤ 1048576) (ht : t ≤ bs.length) (ho : OI w B B2 b d (List.replicate n 0)) (hn : n ≤ 40) (hB : B2 ≤ w.heap.size) :
    Calls Try.prog 117 #[.slice a bs.length c, .int .i64 t, .slice b n d] w (SpLeft bs t B B2 b d n w) := by
  have H := Lib.hid h
  have HB := Lib.hid hb
  have HO := Lib.hid ho
  have CC := implReadUvarint_ok a c bs t w (h w (Span.refl _ _ _)) hb hl (by omega)
  clear h hb ho
  cases hu : rdU bs t with
  | none =>
    rw [rdV_none hu] at CC
    have C1 := Lib.hid CC
    have HU := Lib.hid hu
    clear CC hu
    go_enter Try.func117, Try.ntmps117
    go_wp2_with (go_at_call 151; (with_reducible refine C1.out.mono ?_); rintro e w' ⟨rfl, rfl⟩)
    go_loopw [7, 8] (fun ok i wr => ok = .bool false ∧ i = .int .i64 0 ∧ wr = w) (fun _ _ _ => 0)
    case atStart => exact ⟨rfl, rfl, rfl⟩
    case round =>
      obtain ⟨rfl, rfl, rfl⟩ := hrel
      go_wp2_with fail
      go_end0
      exact ⟨rfl, _, by simp, HO.out, Span.refl _ _ _, fun v hv _ hs => absurd hs (spAt_none HU.out hv)⟩
  | some p =>
    obtain ⟨k, q⟩ := p
    rw [rdV_some hu] at CC
    have C1 := Lib.hid CC
    obtain ⟨u1, u2, u3⟩ := rdU_le HB.out ht hu
    have HU := Lib.hid hu
    clear CC hu
    by_cases hkn : k ≤ n
    rotate_left
    · have i1 : ¬ k ≤ (n : Int) := hkn
      have i2 : 0 < k := by omega
      go_enter Try.func117, Try.ntmps117
      go_wp2_with (go_at_call 151; (with_reducible refine C1.out.mono ?_); rintro e w' ⟨rfl, rfl⟩)
      go_loopw [6, 7, 8] (fun m ok i wr => m = .int .i64 k ∧ ok = .bool true ∧ i = .int .i64 0 ∧ wr = w) (fun _ _ _ _ => 0)
      case atStart => exact ⟨rfl, rfl, rfl, rfl⟩
      case round =>
        obtain ⟨rfl, rfl, rfl, rfl⟩ := hrel
        go_wp2_with fail
        go_end0
        exact ⟨rfl, _, by simp, HO.out, Span.refl _ _ _, fun v hv hvn hs => absurd hs (spAt_many HU.out (by omega) hv)⟩
    have S0 := Lib.hid (SpIn.start (n := n) HU.out HB.out ht)
    go_enter Try.func117, Try.ntmps117
    go_wp2_with (go_at_call 151; (with_reducible refine C1.out.mono ?_); rintro e w' ⟨rfl, rfl⟩)
    go_loopw [1, 6, 7, 8] (fun s m ok i wr => ∃ (qs : List (Nat × Int)) (e : Nat) (mm : Int) (p : Nat), s = .int .i64 (e : Nat) ∧ m = .int .i64 mm ∧ ok = .bool true ∧ i = .int .i64 (p : Nat) ∧ Hid (mm = k - (qs.length : Int)) ∧ 0 ≤ mm ∧ mm ≤ k ∧ Hid (p = (unP qs).length) ∧ p ≤ n ∧ e ≤ bs.length ∧ Hid (SpIn bs t q k n qs e) ∧ Hid (OI wr B B2 b d (fillP qs n)) ∧ Hid (Span B B2 w wr)) (fun _ m _ _ _ => (intOf m).toNat)
    case atStart => exact ⟨[], t + q, k, 0, rfl, rfl, rfl, rfl, by simp [Hid], u2, by omega, rfl, Nat.zero_le _, u1, S0, by simpa [fillP, unP] using HO, Span.refl _ _ _⟩
    case round =>
      clear S0
      obtain ⟨qs, e, mm, p, rfl, rfl, rfl, rfl, HM, hm0, hmk, HP, hpn, hel, HS, HOI, HSP⟩ := hrel
      by_cases hm : 0 < mm
      rotate_left
      · have i1 : ¬ 0 < mm := hm
        go_wp2_with fail
        go_end0
        exact ⟨rfl, _, fillP_length HS.out.fit, HOI.out, HSP.out, fun v hv hvn hs => (HS.out.done (by have := HM.out; omega) hv hvn hs).1⟩
      · have i1 : mm ≤ (n : Int) := by omega
        have hlt : qs.length < k.toNat := by have := HM.out; omega
        have CD := implDecodeInts_ok a c bs (e : Int) 2 wr (H.out wr HSP.out) HB.out hl
        have hdi := decI_in (bs := bs) (t := e) (k := 2) hel (by omega) (by omega)
        rw [show (2 : Int).toNat = 2 from rfl] at hdi
        cases hr : rdTo bs e 2 with
        | none =>
          obtain ⟨d1, d2, d3⟩ := di_none (hdi.trans hr)
          rw [d1, d2, d3] at CD
          have C2 := Lib.hid CD
          have HR := Lib.hid hr
          clear CD hdi hr d1 d2 d3
          go_wp2_with (go_at_call 108; (with_reducible refine C2.out.mono ?_); rintro e w2 ⟨a2, c2, rfl, o2, e2⟩)
          refine bodyPost_ret (results_none rfl _ _ _) rfl ?_
          exact ⟨rfl, _, fillP_length HS.out.fit, HOI.out.ext e2, HSP.out.trans (Span.of_ext e2), fun v hv hvn hs => absurd hs (HS.out.no hlt (.inl HR.out) hv hvn)⟩
        | some r =>
          obtain ⟨l, e'⟩ := r
          obtain ⟨g, x, rfl, hg1, hx0, hx1⟩ := rdTo_pair HB.out hr
          obtain ⟨d1, d2, d3⟩ := di_some (hdi.trans hr)
          rw [d1, d2, d3] at CD
          have C2 := Lib.hid CD
          have HR := Lib.hid hr
          have he' := (rdTo_le HB.out hel hr).1
          clear CD hdi hr d1 d2 d3
          by_cases hfit : p + g < n
          · have i2 : ¬ ((n : Int) - (p : Int) ≤ (g : Int)) := by omega
            have hfs := fillP_set (qs := qs) (n := n) (g := g) (x := x) (by rw [← HP.out]; exact hfit)
            have HS' := Lib.hid (HS.out.step HB.out HR.out hlt (by rw [← HP.out]; exact hfit))
            go_wp2_with fail
            (with_reducible refine C2.out.mono ?_)
            rintro e w2 ⟨a2, c2, rfl, o2, e2⟩
            obtain ⟨gp, rfl, gp1, gp2, p0, p1⟩ := o2.head2
            have O2 := HOI.out.ext e2
            have S2 := HSP.out.trans (Span.of_ext e2)
            have hfl := fillP_length HS.out.fit
            obtain ⟨gb, rfl, gb1, gb2, gb3⟩ := O2.form (by omega)
            obtain ⟨s1, s2, s3, u, s4⟩ := O2.store (p + g) x (by omega)
            rw [show (fillP qs n).set (p + g) x = fillP (qs ++ [(g, x)]) n by rw [HP.out]; exact hfs.1] at s1
            have s5 := S2.trans s2
            have HP' : Hid (p + g + 1 = (unP (qs ++ [(g, x)])).length) := by rw [hfs.2, ← HP.out]; exact Lib.hid rfl
            have HM' : Hid (mm - 1 = k - ((qs ++ [(g, x)]).length : Int)) := by
              have := HM.out
              rw [List.length_append, List.length_singleton]
              exact Lib.hid (by omega)
            have SS1 := Lib.hid s1
            have SS5 := Lib.hid s5
            have i3 : (p : Int) + (g : Int) < (n : Int) := by omega
            have i4 : (0 : Int) ≤ (p : Int) + (g : Int) := by omega
            clear hfs s1 s2 s5 O2 S2 hfl o2 HOI HSP HS HR
            go_wp2_with fail
            go_roundw
            case rel => exact ⟨qs ++ [(g, x)], e', mm - 1, p + g + 1, rfl, rfl, rfl, by go_num, HM', by omega, by omega, HP', by omega, he', HS', SS1, SS5⟩
            case measure => simp [intOf]; omega
          · have i2 : (n : Int) - (p : Int) ≤ (g : Int) := by omega
            go_wp2_with fail
            (with_reducible refine C2.out.mono ?_)
            rintro e w2 ⟨a2, c2, rfl, o2, e2⟩
            obtain ⟨gp, rfl, gp1, gp2, p0, p1⟩ := o2.head2
            go_wp2_with fail
            first
              | (go_end0; exact ⟨rfl, _, fillP_length HS.out.fit, HOI.out.ext e2, HSP.out.trans (Span.of_ext e2), fun v hv hvn hs => absurd hs (HS.out.no hlt (.inr ⟨g, x, e', HR.out, .inl (by rw [← HP.out]; omega)⟩) hv hvn)⟩)
              | (refine bodyPost_ret (results_none rfl _ _ _) rfl ?_; exact ⟨rfl, _, fillP_length HS.out.fit, HOI.out.ext e2, HSP.out.trans (Span.of_ext e2), fun v hv hvn hs => absurd hs (HS.out.no hlt (.inr ⟨g, x, e', HR.out, .inl (by rw [← HP.out]; omega)⟩) hv hvn)⟩)

/-- What l12Sparse hands back. -/
def SpNew (bs : List Int) (t n : Nat) (w : World) (e : Ending) (w' : World) : Prop :=
  ∃ (vs : List Int) (ok : Bool), vs.length = n ∧ NewIK w vs ok e w' ∧ (ok = true → SpAt bs t vs ∧ ∀ v, validV v = true → v.length = n → SpAt bs t v → vs = v) ∧ (ok = false → ∀ v, validV v = true → v.length = n → ¬ SpAt bs t v)

set_option maxHeartbeats 4000000 in
set_option maxRecDepth 100000 in
theorem l12Sparse_ok (a : Option Addr) (c : Nat) (bs : List Int) (t n : Nat) (w : World) (h : Vals w a (Y bs)) (hb : AllB bs) (hl : bs.length ≤ 1048576) (ht : t ≤ bs.length) (hn : n ≤ 40) :
    Calls Try.prog 116 #[.slice a bs.length c, .int .i64 t, .int .i64 n] w (SpNew bs t n w) := by
  have H := Lib.hid h
  have HB := Lib.hid hb
  have CC := fun (W : World) (hW : Ext w W) => specReadUvarint_ok a c bs t W (h.ext hW) hb hl (by omega)
  clear h hb
  obtain ⟨i, hi, hz0, hz1, hz2⟩ := info_parts infoInt
  have MK : Hid (∀ (w1 : World) (qs : List (Nat × Int)) (ok : Bool), (unP qs).length ≤ n → OI w1 w.heap.size w1.heap.size (some ⟨w.heap.size, 0, none⟩) n (fillP qs n) → Ext w w1 → (ok = true → SpAt bs t (fillP qs n) ∧ ∀ v, validV v = true → v.length = n → SpAt bs t v → fillP qs n = v) → (ok = false → ∀ v, validV v = true → v.length = n → ¬ SpAt bs t v) → SpNew bs t n w (.returned (.tuple #[.slice (some ⟨w.heap.size, 0, none⟩) n n, .bool ok])) w1) := fun w1 qs ok hf ho he h1 h2 =>
    ⟨fillP qs n, ok, fillP_length hf, ⟨_, _, by rw [fillP_length hf], ho.1, he⟩, h1, h2⟩
  go_enter Try.func116, Try.ntmps116
  go_wp2_with (at_make; refine wpList_make_full _ rfl _ _ 32 rfl w.heap.size 3 i (.int .i64 0) 1 Try.underlying32 hi hz0 hz1 _ _ _ _ n rfl rfl rfl rfl ?b1 ?b2 (Nat.le_refl _) ?_)
  case b1 => rw [hz2]; omega
  case b2 => unfold maxLen; omega
  intro w1 hown hgrow
  have q0 : OI w1 w.heap.size w1.heap.size (some ⟨w.heap.size, 0, none⟩) n (fillP [] n) := by
    refine OI.of ?_
    unfold OwnI
    simpa [Value.cells, toList_madeCells_one, fillP, unP] using hown
  have e0 := (Ext.refl w).grown hgrow (by simp)
  have C0 := CC w1 e0
  have Q0 := Lib.hid q0
  clear hown hgrow CC q0
  cases hu : rdU bs t with
  | none =>
    rw [rdV_none hu] at C0
    have C1 := Lib.hid C0
    have HU := Lib.hid hu
    clear C0 hu
    go_wp2_with (go_at_call 111; (with_reducible refine C1.out.mono ?_); rintro e w' ⟨rfl, rfl⟩)
    go_ret2
    exact MK.out w1 [] false (by simp [unP]) Q0.out e0 (fun h => by cases h) (fun _ v hv _ => spAt_none HU.out hv)
  | some r =>
    obtain ⟨k, q⟩ := r
    rw [rdV_some hu] at C0
    have C1 := Lib.hid C0
    obtain ⟨u1, u2, u3⟩ := rdU_le HB.out ht hu
    have HU := Lib.hid hu
    clear C0 hu
    by_cases hkn : (n : Int) < k
    · go_wp2_with (go_at_call 111; (with_reducible refine C1.out.mono ?_); rintro e w' ⟨rfl, rfl⟩)
      go_ret2
      exact MK.out w1 [] false (by simp [unP]) Q0.out e0 (fun h => by cases h) (fun _ v hv hvn => spAt_many HU.out (by omega) hv)
    obtain ⟨k, rfl⟩ := Int.eq_ofNat_of_zero_le u2
    have hkd : decide (n < k) = false := decide_eq_false (by omega)
    have hkd2 : decide ((n : Int) < (k : Int)) = false := decide_eq_false hkn
    have S0 := Lib.hid (SpIn.start (n := n) HU.out HB.out ht)
    go_wp2_with (go_at_call 111; (with_reducible refine C1.out.mono ?_); rintro e w' ⟨rfl, rfl⟩)
    go_loopw [10, 12, 13] (fun s pp ii wr => ∃ (qs : List (Nat × Int)) (e p j : Nat), s = .int .i64 (e : Nat) ∧ pp = .int .i64 (p : Nat) ∧ ii = .int .i64 (j : Nat) ∧ Hid (j = qs.length) ∧ j ≤ k ∧ Hid (p = (unP qs).length) ∧ p ≤ n ∧ e ≤ bs.length ∧ Hid (SpIn bs t q (k : Int) n qs e) ∧ Hid (∀ p ∈ qs, p.2 ≠ 0) ∧ Hid (OI wr w.heap.size w1.heap.size (some ⟨w.heap.size, 0, none⟩) n (fillP qs n)) ∧ Hid (Ext w wr) ∧ w1.heap.size ≤ wr.heap.size) (fun _ _ ii _ => k - (intOf ii).toNat)
    case atStart => exact ⟨[], t + q, 0, 0, rfl, rfl, rfl, rfl, Nat.zero_le _, rfl, Nat.zero_le _, u1, S0, fun p hp => by simp at hp, Q0, e0, Nat.le_refl _⟩
    case round =>
      clear S0 Q0 e0
      obtain ⟨qs, e, p, j, rfl, rfl, rfl, HJ, hjk, HP, hpn, hel, HS, HZ, HOI, HE, hsz⟩ := hrel
      by_cases hlt : j < k
      rotate_left
      · have hjk' : Hid (qs.length = (k : Int).toNat) := Lib.hid (by have := HJ.out; omega)
        by_cases hend : e = bs.length
        · have he1 : ((e : Int) == (bs.length : Int)) = true := by simp [hend]
          have HA : Hid (SpAt bs t (fillP qs n)) := by
            have h1 := HS.out
            have := spAt_of (z := n - (unP qs).length) HB.out h1.hk (by rw [← hend]; exact h1.rd) hjk'.out HZ.out
            exact this
          clear hend
          go_wp2_with fail
          go_ret2
          exact MK.out _ qs true HS.out.fit (HOI.out.mono (Nat.le_refl _) hsz) HE.out (fun _ => ⟨HA.out, fun v hv hvn hs => (HS.out.done hjk'.out hv hvn hs).1⟩) (fun h => by cases h)
        · have he1 : ((e : Int) == (bs.length : Int)) = false := beq_eq_false_iff_ne.2 (by omega)
          have HN : Hid (∀ v, validV v = true → v.length = n → ¬ SpAt bs t v) := fun v hv hvn hs => hend (HS.out.done hjk'.out hv hvn hs).2
          clear hend
          go_wp2_with fail
          go_ret2
          exact MK.out _ qs false HS.out.fit (HOI.out.mono (Nat.le_refl _) hsz) HE.out (fun h => by cases h) (fun _ => HN.out)
      · have hlt' : Hid (qs.length < (k : Int).toNat) := Lib.hid (by have := HJ.out; omega)
        have CD := specDecodeInts_ok a c bs (e : Int) 2 wr (H.out.ext HE.out) HB.out hl
        have hdi := decI_in (bs := bs) (t := e) (k := 2) hel (by omega) (by omega)
        rw [show (2 : Int).toNat = 2 from rfl] at hdi
        cases hr : rdTo bs e 2 with
        | none =>
          obtain ⟨d1, d2, d3⟩ := di_none (hdi.trans hr)
          rw [d1, d2, d3] at CD
          have C2 := Lib.hid CD
          have HN : Hid (∀ v, validV v = true → v.length = n → ¬ SpAt bs t v) := fun v hv hvn => HS.out.no hlt'.out (.inl hr) hv hvn
          clear CD hdi hr d1 d2 d3
          go_wp2_with (go_at_call 106; (with_reducible refine C2.out.mono ?_); rintro e w2 ⟨a2, c2, rfl, o2, e2⟩)
          go_ret2
          exact MK.out _ qs false HS.out.fit ((HOI.out.ext e2).mono (Nat.le_refl _) (Nat.le_trans hsz e2.size_le)) (HE.out.trans e2) (fun h => by cases h) (fun _ => HN.out)
        | some r =>
          obtain ⟨l, e'⟩ := r
          obtain ⟨g, x, rfl, hg1, hx0, hx1⟩ := rdTo_pair HB.out hr
          obtain ⟨d1, d2, d3⟩ := di_some (hdi.trans hr)
          rw [d1, d2, d3] at CD
          have C2 := Lib.hid CD
          have HR := Lib.hid hr
          have he' := (rdTo_le HB.out hel hr).1
          clear CD hdi hr d1 d2 d3
          by_cases hbad : n ≤ p + g ∨ x = 0
          · have HN : Hid (∀ v, validV v = true → v.length = n → ¬ SpAt bs t v) := fun v hv hvn => HS.out.no hlt'.out (.inr ⟨g, x, e', HR.out, by rw [← HP.out]; exact hbad⟩) hv hvn
            have fin : Hid (∀ (w2 : World), Ext wr w2 → SpNew bs t n w (.returned (.tuple #[.slice (some ⟨w.heap.size, 0, none⟩) n n, .bool false])) w2) := fun w2 e2 => MK.out _ qs false HS.out.fit ((HOI.out.ext e2).mono (Nat.le_refl _) (Nat.le_trans hsz e2.size_le)) (HE.out.trans e2) (fun h => by cases h) (fun _ => HN.out)
            by_cases hfit : n ≤ p + g
            · have i2 : (n : Int) - (p : Int) ≤ (g : Int) := by omega
              clear hbad
              go_wp2_with fail
              (with_reducible refine C2.out.mono ?_)
              rintro e w2 ⟨a2, c2, rfl, o2, e2⟩
              obtain ⟨gp, rfl, gp1, gp2, p0, p1⟩ := o2.head2
              go_wp2_with fail
              go_ret2
              exact fin.out _ e2
            · have i2 : ¬ ((n : Int) - (p : Int) ≤ (g : Int)) := by omega
              obtain rfl : x = 0 := by omega
              clear hbad
              go_wp2_with fail
              (with_reducible refine C2.out.mono ?_)
              rintro e w2 ⟨a2, c2, rfl, o2, e2⟩
              obtain ⟨gp, rfl, gp1, gp2, p0, p1⟩ := o2.head2
              go_wp2_with fail
              go_ret2
              exact fin.out _ e2
          · have hfit : p + g < n := by omega
            have hxz : Hid (x ≠ 0) := Lib.hid (by omega)
            have i2 : ¬ ((n : Int) - (p : Int) ≤ (g : Int)) := by omega
            have i5 : (x == 0) = false := beq_eq_false_iff_ne.2 (by omega)
            have hfs := fillP_set (qs := qs) (n := n) (g := g) (x := x) (by rw [← HP.out]; exact hfit)
            have HS' := Lib.hid (HS.out.step HB.out HR.out hlt'.out (by rw [← HP.out]; exact hfit))
            have HZ' : Hid (∀ p ∈ qs ++ [(g, x)], p.2 ≠ 0) := fun r hr => by
              simp at hr
              rcases hr with hr | rfl
              · exact HZ.out r hr
              · exact hxz.out
            clear hbad
            go_wp2_with fail
            (with_reducible refine C2.out.mono ?_)
            rintro e w2 ⟨a2, c2, rfl, o2, e2⟩
            obtain ⟨gp, rfl, gp1, gp2, p0, p1⟩ := o2.head2
            have O2 := HOI.out.ext e2
            have E2 := HE.out.trans e2
            have hfl := fillP_length HS.out.fit
            obtain ⟨s1, s2, s3, u, s4⟩ := O2.store (p + g) x (by omega)
            rw [show (fillP qs n).set (p + g) x = fillP (qs ++ [(g, x)]) n by rw [HP.out]; exact hfs.1] at s1
            have s5 := Span.ext E2 s2 (Nat.le_refl _)
            have s6 := s2.size
            have z2 := e2.size_le
            have HP' : Hid (p + g + 1 = (unP (qs ++ [(g, x)])).length) := by rw [hfs.2, ← HP.out]; exact Lib.hid rfl
            have HJ' : Hid (j + 1 = (qs ++ [(g, x)]).length) := by rw [List.length_append, List.length_singleton, ← HJ.out]; exact Lib.hid rfl
            have SS1 := Lib.hid s1
            have SS5 := Lib.hid s5
            have i3 : (p : Int) + (g : Int) < (n : Int) := by omega
            have i4 : (0 : Int) ≤ (p : Int) + (g : Int) := by omega
            clear hfs s1 s2 s5 O2 E2 hfl o2 HOI HE HS HR
            go_wp2_with fail
            go_roundw
            case rel => exact ⟨qs ++ [(g, x)], e', p + g + 1, j + 1, rfl, by go_num, by go_num, HJ', by omega, HP', by omega, he', HS', HZ', SS1, SS5, by omega⟩
            case measure => simp [intOf]; omega

/-- Why nothing, or what, is found: the reference's way. -/
theorem dc_dense {bs l : List Int} {n : Int} {c : Nat} (hB : AllB bs) (h0 : bs[0]? = some 0) (h1 : rdU bs 1 = some (n, c)) (h2 : rdTo bs (1 + c) n.toNat = some (l, bs.length)) (hv : validV l = true) : decCo bs = some l := by
  obtain ⟨a1, a2, a3⟩ := rdU_sound hB h1
  obtain ⟨b1, b2, b3, b4⟩ := rdTo_sound hB _ _ _ h2
  refine decCo_some hv (.inl ?_)
  have hn := (inR_true.1 a1).1
  rw [encDense_yes hv, encInts_cons, encInts_cons, uv_zero, show (l.length : Int) = n by omega]
  rw [List.drop_length, List.append_nil] at b3
  rw [← b3, ← a2]
  cases bs with
  | nil => simp at h0
  | cons x r => simp at h0; subst h0; rfl
theorem dc_nodense {bs : List Int} {n : Int} {c : Nat} (h0 : bs[0]? = some 0) (h1 : rdU bs 1 = some (n, c)) (h2 : rdTo bs (1 + c) n.toNat = none ∨ ∃ l e, rdTo bs (1 + c) n.toNat = some (l, e) ∧ (e ≠ bs.length ∨ validV l = false)) : decCo bs = none := decCo_none fun v hv => ⟨fun he => (by
  obtain ⟨e, p1, p2, p3, p4, p5, p6⟩ := dense_parts hv he
  rw [h1] at p5
  simp only [Option.some.injEq, Prod.mk.injEq] at p5
  rw [show 1 + c = e by omega, show n.toNat = v.length by omega, p2] at h2
  rcases h2 with h2 | ⟨l, e2, h2, h3⟩
  · cases h2
  · simp only [Option.some.injEq, Prod.mk.injEq] at h2
    obtain ⟨rfl, rfl⟩ := h2
    rcases h3 with h3 | h3
    · exact h3 rfl
    · rw [hv] at h3; cases h3), fun he => (by
  obtain ⟨e, p1, p2, p3, p4, p5, p6⟩ := sparse_parts hv he
  rw [h0] at p4
  cases p4)⟩
theorem dc_sparse {bs l : List Int} {n : Nat} {c : Nat} (hB : AllB bs) (h0 : bs[0]? = some 1) (h1 : rdU bs 1 = some ((n : Int), c)) (hs : SpAt bs (1 + c) l) (hl : l.length = n) (hv : validV l = true) : decCo bs = some l := by
  obtain ⟨a1, a2, a3⟩ := rdU_sound hB h1
  refine decCo_some hv (.inr ?_)
  unfold SpAt at hs
  rw [encSparse_yes hv, show [(1 : Int), (l.length : Int), (cnz l : Int)] ++ sp l = 1 :: (l.length : Int) :: (cnz l : Int) :: sp l by rfl, encInts_cons, encInts_cons, encInts_cons, uv_one, hl, ← hs, ← a2]
  cases bs with
  | nil => simp at h0
  | cons x r => simp at h0; subst h0; rfl
theorem dc_nosparse {bs : List Int} {n : Nat} {c : Nat} {x : Int} (h0 : bs[0]? = some x) (hx : x ≠ 0) (h1 : rdU bs 1 = some ((n : Int), c)) (h2 : x ≠ 1 ∨ ∀ v, validV v = true → v.length = n → ¬ SpAt bs (1 + c) v) : decCo bs = none := decCo_none fun v hv => ⟨fun he => (by
  obtain ⟨e, p1, p2, p3, p4, p5, p6⟩ := dense_parts hv he
  rw [h0] at p4
  injection p4 with p4
  exact hx p4), fun he => (by
  obtain ⟨e, p1, p2, p3, p4, p5, p6⟩ := sparse_parts hv he
  rw [h0] at p4
  injection p4 with p4
  rw [h1] at p5
  simp only [Option.some.injEq, Prod.mk.injEq] at p5
  rcases h2 with h2 | h2
  · exact h2 p4
  · exact h2 v hv (by omega) (by rw [show 1 + c = e by omega]; exact p2))⟩
theorem dc_invalid {bs l : List Int} {n : Nat} {c : Nat} {x : Int} (h0 : bs[0]? = some x) (hx : x ≠ 0) (h1 : rdU bs 1 = some ((n : Int), c)) (hl : l.length = n) (hs : SpAt bs (1 + c) l) (hu : ∀ v, validV v = true → v.length = n → SpAt bs (1 + c) v → l = v) (hv : validV l = false) : decCo bs = none :=
  dc_nosparse h0 hx h1 (.inr fun v hv' hvn hs' => by rw [hu v hv' hvn hs', hv'] at hv; cases hv)

end Go.Proofs.Ytkegknophppdgaa
