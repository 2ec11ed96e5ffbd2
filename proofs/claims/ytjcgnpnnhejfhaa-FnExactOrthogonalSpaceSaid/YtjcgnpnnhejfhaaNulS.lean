/- Contract of the reference's NullSpace; the law. -/
import Derived.Test.YtjcgnpnnhejfhaaNulW
import Derived.Test.YtjcgnpnnhejfhaaLawTot
namespace Go.Proofs.Ytjcgnpnnhejfhaa
open Go.RowKit
set_option linter.unusedVariables false
set_option maxRecDepth 20000

/-- append(rows, row), and where the new rows lie. -/
theorem wpList_appM2 {ops : Array Oper} {rest : List Oper} {o : Oper} {a : Act} {Q : Exit → Act → World → Prop} (w : World) (hgd : o.guard = none) (s x : Operand)
    (ho : o.op = .call { callee := .builtin .append, args := #[s, x], argTypes := #[22, 22] })
    (B C : Nat) (a0 : Option Addr) (c : Nat) (xss : List (List Int)) (hs : a.eval s = .slice a0 xss.length c) (hown : OM w B C a0 c xss)
    (A : Option Addr) (d : Nat) (ra : Option Addr) (rc : Nat) (xs : List Int) (hx : a.eval x = .slice A 1 d) (hv : Vals w A [.slice ra xs.length rc]) (hrow : OI w C w.heap.size ra rc xs) (hBC : B ≤ C) (hC : C ≤ w.heap.size)
    (yss : List (List Int)) (hy : yss = xss ++ [xs]) (h63 : xss.length + 1 ≤ 1099511627776)
    (h : ∀ a' c' w', OM w' B w'.heap.size a' c' yss → w.grownBy w' (blockOf a0) → (blockOf a' = blockOf a0 ∨ blockOf a' = some w.heap.size) → wpList Try.prog ops Q rest (a.put o.dst (.slice a' yss.length c')) w') :
    wpList Try.prog ops Q (o :: rest) a w := by
  obtain ⟨rs, q1, q2, q3⟩ := hown
  obtain ⟨i, hi, hz0, hz1, hz2⟩ := info_parts infoInts
  refine wpList_app w hgd s x 22 ho B 42 i (.slice none 0 0) 24 Try.underlying22 hi hz0 hz1 hz2 rfl a0 xss.length c (RV rs xss) hs q1 A 1 d [.slice ra xs.length rc] hx rfl hv (by simp [Value.oneCell']) h63 (by omega) (by omega) ?_
  intro a' c' w' h1 h2 h3
  have hz := h2.size
  have := OM.grown q1 q3 hrow hBC hC h1 h2 hz
  have hl : yss.length = xss.length + 1 := by rw [hy]; simp
  rw [← hl]
  rw [← hy] at this
  exact h a' c' w' this h2 h3

/-- Which row begins in a column; -1 where none does. -/
def pvTo (x : List (List Int)) (n : Nat) : Nat → List Int
  | 0 => List.replicate n (-1)
  | i + 1 => (pvTo x n i).set (ld (x.getD i [])) (i : Nat)
theorem pvTo_length (x : List (List Int)) (n k : Nat) : (pvTo x n k).length = n := by
  induction k with
  | zero => simp [pvTo]
  | succ k ih => simp [pvTo, ih]
theorem pvTo_get {n : Nat} {x : List (List Int)} (h : RM n x) : ∀ k, k ≤ x.length → ∀ j, j < n → (∃ t, t < k ∧ ld (x.getD t []) = j ∧ (pvTo x n k)[j]? = some (t : Int)) ∨ ((∀ t, t < k → ld (x.getD t []) ≠ j) ∧ (pvTo x n k)[j]? = some (-1)) := by
  intro k
  induction k with
  | zero => intro _ j hj; right; exact ⟨fun t ht => by omega, by simp [pvTo, hj]⟩
  | succ k ih =>
    intro hk j hj
    have hld := h.ld_lt (show k < x.length by omega)
    by_cases e : ld (x.getD k []) = j
    · left
      refine ⟨k, by omega, e, ?_⟩
      rw [pvTo, e, List.getElem?_set_self (by rw [pvTo_length]; exact hj)]
    · rcases ih (by omega) j hj with ⟨t, h1, h2, h3⟩ | ⟨h1, h2⟩
      · left
        refine ⟨t, by omega, h2, ?_⟩
        rw [pvTo, List.getElem?_set_ne e]; exact h3
      · right
        refine ⟨fun t ht => ?_, ?_⟩
        · by_cases e2 : t = k
          · rw [e2]; exact e
          · exact h1 t (by omega)
        · rw [pvTo, List.getElem?_set_ne e]; exact h2
theorem pv_fact {n : Nat} {x : List (List Int)} (h : RM n x) {j : Nat} (hj : j < n) : (∃ t, t < x.length ∧ ld (x.getD t []) = j ∧ (pvTo x n x.length)[j]? = some (t : Int) ∧ isFree x j = false) ∨ (isFree x j = true ∧ (pvTo x n x.length)[j]? = some (-1)) := by
  rcases pvTo_get h x.length (Nat.le_refl _) j hj with ⟨t, h1, h2, h3⟩ | ⟨h1, h2⟩
  · left
    refine ⟨t, h1, h2, h3, ?_⟩
    cases hf : isFree x j
    · rfl
    · exact absurd h2 (isFree_ne hf h1)
  · right
    refine ⟨?_, h2⟩
    unfold isFree
    rw [List.all_eq_true]
    intro r hr
    obtain ⟨t, ht, rfl⟩ := List.mem_iff_getElem.1 hr
    have := h1 t ht
    rw [show x.getD t [] = x[t] by simp [List.getD, ht]] at this
    simpa using this

/-- The reference's way: column by column. -/
def nwTo (x : List (List Int)) (n f j : Nat) : List Int := (List.range n).map fun i => if i < j then nullE x f i else if i = f then 1 else 0
theorem nwTo_length (x : List (List Int)) (n f j : Nat) : (nwTo x n f j).length = n := by simp [nwTo]
theorem nwTo_zero (x : List (List Int)) (n f : Nat) : nwTo x n f 0 = unitV n f := by
  apply List.ext_getElem?
  intro j
  by_cases hj : j < n
  · rw [unitV_get hj]; simp [nwTo, hj]
  · rw [List.getElem?_eq_none (by rw [nwTo_length]; omega), List.getElem?_eq_none (by rw [unitV_length]; omega)]
theorem nwTo_all {x : List (List Int)} {n f j : Nat} (h : n ≤ j) : nwTo x n f j = nullV x n f := by
  unfold nwTo nullV
  apply List.map_congr_left
  intro i hi
  rw [if_pos (by have := List.mem_range.1 hi; omega)]
theorem nwTo_set {x : List (List Int)} {n f j : Nat} (hj : j < n) : nwTo x n f (j + 1) = (nwTo x n f j).set j (nullE x f j) := by
  apply List.ext_getElem?
  intro i
  rw [List.getElem?_set]
  by_cases e : j = i
  · subst e
    rw [if_pos rfl, if_pos (by rw [nwTo_length]; exact hj)]
    simp [nwTo, hj]
  · rw [if_neg e]
    unfold nwTo
    rw [List.getElem?_map, List.getElem?_map]
    by_cases hi : i < n
    · simp only [List.getElem?_range hi, Option.map_some]
      congr 1
      by_cases h1 : i < j
      · rw [if_pos h1, if_pos (by omega)]
      · rw [if_neg h1, if_neg (by omega)]
    · rw [List.getElem?_eq_none (by simp; omega)]; rfl
theorem nwTo_keep {x : List (List Int)} {n f j : Nat} (hj : j < n) (h : isFree x j = true) : nwTo x n f (j + 1) = nwTo x n f j := by
  have hE : nullE x f j = if j = f then 1 else 0 := by
    unfold nullE
    split
    · rfl
    · have : x.find? (fun r => decide (ld r = j)) = none := by
        rw [List.find?_eq_none]
        intro r hr
        have := List.all_eq_true.1 h r hr
        simpa using this
      rw [this]
  rw [nwTo_set hj, hE]
  apply List.ext_getElem?
  intro i
  rw [List.getElem?_set]
  by_cases e : j = i
  · subst e
    rw [if_pos rfl, if_pos (by rw [nwTo_length]; exact hj)]
    simp [nwTo, hj]
  · rw [if_neg e]
theorem nullE_piv {n : Nat} {x : List (List Int)} (h : RM n x) {f t : Nat} (hf : isFree x f = true) (ht : t < x.length) : nullE x f (ld (x.getD t [])) = (0 - ent (x.getD t []) f) % 1019 := by
  unfold nullE
  rw [if_neg (isFree_ne hf ht), find_ld h ht]

set_option maxHeartbeats 8000000 in
set_option maxRecDepth 100000 in
theorem specNullSpace_ok (a : Option Addr) (c : Nat) (m : List (List Int)) (w : World) (h : MatR w a m) (hl : m.length ≤ 1048576) (hr : ∀ xs ∈ m, xs.length ≤ 1048576) :
    Calls Try.prog 22 #[.slice a m.length c] w (NewM w (nsp m)) := by
  have E0 := (Ext.refl w).alloc (.cells #[] 42)
  have Q := Lib.hid (specIsValidMatrix_ok a c m _ (h.ext E0) (by omega) (fun xs hx => Nat.le_trans (hr xs hx) (by omega)))
  have HR := Lib.hid hr
  have O0 := Lib.hid (OM.new0 w)
  clear hr
  cases hv : validM m
  · have HN : Hid (nsp m = []) := by unfold nsp; rw [hv]; exact Lib.hid rfl
    rw [hv] at Q
    go_enter Try.func22, Try.ntmps22
    go_wp2_with fail
    (with_reducible refine Q.out.mono ?_)
    rintro e w1 ⟨rfl, e1⟩
    go_wp2_with fail
    go_ret
    rw [HN.out]
    exact ⟨_, _, rfl, (O0.out.ext e1.ext).mono (Nat.le_refl _) e1.ext.size_le, E0.trans e1.ext⟩
  have HN : Hid (nsp m = nullTo (rowRed m) (cols m) (cols m)) := by unfold nsp; rw [hv]; exact Lib.hid rfl
  have HRM := Lib.hid (rowRed_RM hv)
  have hc := cols_le (validM_true.1 hv).1
  have hb := (rowRed_bound m).1
  rw [hv] at Q
  clear hv
  obtain ⟨x, hx⟩ : ∃ x, Hid (x = rowRed m) := ⟨_, rfl⟩
  obtain ⟨n, hn⟩ : ∃ n, Hid (n = cols m) := ⟨_, rfl⟩
  rw [← hx.out, ← hn.out] at HN HRM
  rw [← hx.out] at hb
  rw [← hn.out] at hc
  obtain ⟨i, hi, hz0, hz1, hz2⟩ := info_parts infoInt
  go_enter Try.func22, Try.ntmps22
  go_wp2_with fail
  (with_reducible refine Q.out.mono ?_)
  rintro e w1 ⟨rfl, e1⟩
  have E1 := E0.trans e1.ext
  have O1 := (O0.out.ext e1.ext).mono (C := w.heap.size) (C2 := w1.heap.size) (Nat.le_refl _) e1.ext.size_le
  clear E0 O0 Q e1
  go_wp2_with (go_at_call 57; (with_reducible refine (specColumnsOf_ok _ _ _ _ (h.ext E1)).mono ?_); rintro e w' ⟨rfl, rfl⟩; rw [← hn.out])
  have CR := specRowReduce_ok a c m w1 (h.ext E1) hl HR.out
  rw [← hx.out] at CR
  have HCR := Lib.hid CR
  clear CR
  (with_reducible refine HCR.out.mono ?_)
  rintro e w2 ⟨a2, c2, rfl, o2, e2⟩
  have E2 := E1.trans e2
  have O2 := O1.ext e2
  clear HCR E1
  go_wp2_with (at_make; refine wpList_make_full _ rfl _ _ 42 rfl w2.heap.size 3 i (.int .i64 0) 1 Try.underlying42 hi hz0 hz1 _ _ _ _ n rfl rfl rfl rfl ?b1 ?b2 (Nat.le_refl _) ?_)
  case b1 => rw [hz2]; omega
  case b2 => unfold maxLen; omega
  intro w3 hown hgrow
  have P3 : OI w3 w2.heap.size w3.heap.size (some ⟨w2.heap.size, 0, none⟩) n (List.replicate 0 (-1) ++ List.replicate (n - 0) 0) := by
    refine OI.of ?_
    unfold OwnI
    simpa [Value.cells, toList_madeCells_one] using hown
  have e3 := (Ext.refl w2).grown hgrow (by simp)
  have E3 := E2.trans e3
  have O3 := O2.ext e3
  have X3 := o2.ext e3
  have z12 := e2.size_le
  have z02 := E2.size_le
  have z23 := e3.size_le
  clear hown hgrow e2 e3 O1 O2 o2
  go_wp2_with fail
  go_loopw [7] (fun i wr => ∃ k : Nat, k ≤ n ∧ i = .int .i64 k ∧ OI wr w2.heap.size w3.heap.size (some ⟨w2.heap.size, 0, none⟩) n (List.replicate k (-1) ++ List.replicate (n - k) 0) ∧ OM wr w1.heap.size w2.heap.size a2 c2 x ∧ OM wr w.heap.size w1.heap.size (some ⟨w.heap.size, 0, none⟩) 0 [] ∧ Ext w wr ∧ w3.heap.size ≤ wr.heap.size) (fun i _ => n - (intOf i).toNat)
  case atStart => exact ⟨0, Nat.zero_le _, rfl, P3, X3, O3, E3, Nat.le_refl _⟩
  case round =>
    clear P3 X3 O3 E3
    obtain ⟨k, hk, rfl, hP, hX, hO, he, hz⟩ := hrel
    by_cases hlt : k < n
    · have hlen : (List.replicate k (-1 : Int) ++ List.replicate (n - k) 0).length = n := by simp; omega
      obtain ⟨s1, s2, s3, u, s4⟩ := hP.store k (-1) (by omega)
      have hset : (List.replicate k (-1 : Int) ++ List.replicate (n - k) 0).set k (-1) = List.replicate (k + 1) (-1) ++ List.replicate (n - (k + 1)) 0 := by
        obtain ⟨q, hq⟩ : ∃ q, n - k = q + 1 := ⟨n - k - 1, by omega⟩
        rw [List.set_append_right _ _ (by simp), List.length_replicate, Nat.sub_self, hq, List.replicate_succ, List.set_cons_zero, List.replicate_succ', show n - (k + 1) = q by omega, List.append_assoc]
        rfl
      rw [hset] at s1
      have s5 := hX.span s2 (.inl (Nat.le_refl _))
      have s6 := hO.span s2 (.inl z12)
      have s7 := Span.ext he s2 (by omega)
      have s8 := s2.size
      have ik : (k : Int) < (n : Int) := by omega
      clear hP hX hO he s2 hset hlen
      go_wp2_with fail
      go_roundw
      case rel => exact ⟨k + 1, by omega, by go_num, s1, s5, s6, s7, by omega⟩
      case measure => simp [intOf]; omega
    obtain rfl : k = n := by omega
    have P4 : OI wr w2.heap.size w3.heap.size (some ⟨w2.heap.size, 0, none⟩) k (pvTo x k 0) := by
      rw [Nat.sub_self, List.replicate_zero, List.append_nil] at hP
      exact hP
    clear hP
    go_wp2_with fail
    go_loopw [8] (fun i wr => ∃ t : Nat, t ≤ x.length ∧ i = .int .i64 t ∧ OI wr w2.heap.size w3.heap.size (some ⟨w2.heap.size, 0, none⟩) k (pvTo x k t) ∧ OM wr w1.heap.size w2.heap.size a2 c2 x ∧ OM wr w.heap.size w1.heap.size (some ⟨w.heap.size, 0, none⟩) 0 [] ∧ Ext w wr ∧ w3.heap.size ≤ wr.heap.size) (fun i _ => x.length - (intOf i).toNat)
    case atStart => exact ⟨0, Nat.zero_le _, rfl, P4, hX, hO, he, hz⟩
    case round =>
      clear P4 hX hO he hz
      obtain ⟨t, ht, rfl, hP, hX, hO, he, hz⟩ := hrel
      by_cases hlt2 : t < x.length
      · obtain ⟨b4, o4, ra, rc, xs, rfl, hb4, hx4, hc4, hrow⟩ := hX.reads.at_ hlt2
        have hxs : Hid (x.getD t [] = xs) := getD_some hx4.out
        have hrk := HRM.out.1.getD hlt2
        have hlk := HRM.out.ld_lt hlt2
        rw [hxs.out] at hrk hlk
        obtain ⟨p, hp⟩ : ∃ p, Hid (ld xs = p) := ⟨_, rfl⟩
        rw [hp.out] at hlk
        have hxl : xs.length ≤ 40 := hrk.2.2
        have HP : Hid (leadI xs = (p : Int)) := leadI_nat hp.out (by rw [hrk.2.1]; exact hlk)
        obtain ⟨s1, s2, s3, u, s4⟩ := hP.store p (t : Int) (by rw [pvTo_length]; exact hlk)
        have HPV : Hid (pvTo x k (t + 1) = (pvTo x k t).set p (t : Int)) := by rw [pvTo, hxs.out, hp.out]; exact Lib.hid rfl
        rw [← HPV.out] at s1
        have s5 := hX.span s2 (.inl (Nat.le_refl _))
        have s6 := hO.span s2 (.inl z12)
        have s7 := Span.ext he s2 (by omega)
        have s8 := s2.size
        have ip : (p : Int) < (k : Int) := by omega
        clear hP hX hO he s2 hrk
        go_wp2_with (go_at_call 48; (with_reducible refine (specLeadingIndex_ok _ _ _ _ hrow (by omega)).mono ?_); rintro e w' ⟨rfl, rfl⟩; rw [HP.out])
        go_roundw
        case rel => exact ⟨t + 1, by omega, by go_num, s1, s5, s6, s7, by omega⟩
        case measure => simp [intOf]; omega
      obtain rfl : t = x.length := by omega
      obtain ⟨pv, hpv⟩ : ∃ pv, Hid (pv = pvTo x k x.length) := ⟨_, rfl⟩
      have HPL : Hid (pv.length = k) := by rw [hpv.out]; exact pvTo_length _ _ _
      rw [← hpv.out] at hP
      have HFA : Hid (∀ j, j < k → (∃ t, t < x.length ∧ ld (x.getD t []) = j ∧ pv[j]? = some (t : Int) ∧ isFree x j = false) ∨ (isFree x j = true ∧ pv[j]? = some (-1))) := fun j hj => by rw [hpv.out]; exact pv_fact HRM.out hj
      have HPV := Lib.hid hP
      have HXX := Lib.hid hX
      obtain ⟨wb, hwb⟩ : ∃ wb, wb = wr := ⟨_, rfl⟩
      subst hwb
      have EB := he
      have OB := hO.mono (C := w.heap.size) (C2 := wb.heap.size) (Nat.le_refl _) (by omega)
      have hzb := hz
      have HB0 : Hid (∀ b, blockOf (some (⟨w.heap.size, 0, none⟩ : Addr)) = some b → b < w1.heap.size ∨ w3.heap.size ≤ b) := fun b hb => by
        obtain ⟨rs, _, q2, _⟩ := hO
        exact .inl (q2 b hb)
      clear hP hX hO he hz
      go_wp2_with fail
      go_loopw [3, 9] (fun v i wr => ∃ (j : Nat) (a3 : Option Addr) (c3 : Nat) (yss : List (List Int)), j ≤ k ∧ i = .int .i64 j ∧ v = .slice a3 yss.length c3 ∧ Hid (yss = nullTo x k j) ∧ OM wr w.heap.size wr.heap.size a3 c3 yss ∧ OI wr w2.heap.size w3.heap.size (some ⟨w2.heap.size, 0, none⟩) k pv ∧ OM wr w1.heap.size w2.heap.size a2 c2 x ∧ Ext w wr ∧ Hid (∀ b, blockOf a3 = some b → b < w1.heap.size ∨ w3.heap.size ≤ b) ∧ w3.heap.size ≤ wr.heap.size) (fun _ i _ => k - (intOf i).toNat)
      case atStart => exact ⟨0, _, _, [], Nat.zero_le _, rfl, rfl, rfl, OB, HPV.out, HXX.out, EB, HB0, hzb⟩
      case round =>
        clear OB EB HPV HXX HB0
        obtain ⟨j, a3, c3, yss, hj, rfl, rfl, HY, ho, hP, hX, he, HA3, hzr⟩ := hrel
        have hyl : yss.length ≤ 40 := by rw [HY.out]; have := nullTo_len x k j; omega
        by_cases hlt3 : j < k
        rotate_left
        · obtain rfl : j = k := by omega
          have HF : Hid (nsp m = yss) := by rw [HN.out, HY.out]; exact Lib.hid rfl
          go_wp2_with fail
          go_ret
          rw [HF.out]
          exact ⟨a3, c3, rfl, ho, he⟩
        have ij : (j : Int) < (k : Int) := by omega
        rcases HFA.out j hlt3 with ⟨t, t1, t2, t3, t4⟩ | ⟨t4, t3⟩
        · have hcj := hP.cellAt t3
          have HS : Hid (nullTo x k (j + 1) = yss) := by rw [nullTo_no t4]; exact Lib.hid HY.out.symm
          have ht0 : (0 : Int) ≤ (t : Int) := by omega
          clear t2 t3 t4
          go_wp2_with fail
          go_roundw
          case rel => exact ⟨j + 1, a3, c3, yss, by omega, by go_num, rfl, Lib.hid HS.out.symm, ho, hP, hX, he, HA3, hzr⟩
          case measure => simp [intOf]; omega
        have hcj := hP.cellAt t3
        have HS : Hid (nullTo x k (j + 1) = yss ++ [nullV x k j]) := by rw [nullTo_yes t4, ← HY.out]; exact Lib.hid rfl
        have HFJ := Lib.hid t4
        have HOO := Lib.hid ho
        have HPP := Lib.hid hP
        have HXX := Lib.hid hX
        have hsz := he.size_le
        obtain ⟨wq, hwq⟩ : ∃ wq, wq = wr := ⟨_, rfl⟩
        subst hwq
        clear t3 t4 ho hP hX
        go_wp2_with fail
        (with_reducible refine (specUnitVector_ok k j _ hlt3 hc).mono ?_)
        rintro e w4 ⟨a4, c4, rfl, o4, e4⟩
        have q4 := OI.of o4
        rw [← nwTo_zero x] at q4
        obtain ⟨gv, rfl, gv1, gv2, gv3⟩ := q4.form (by rw [nwTo_length]; omega)
        have HUL := Lib.hid (unitV_length k j)
        rw [HUL.out]
        clear o4
        go_wp2_with fail
        go_loopw [11] (fun i wr => ∃ s : Nat, s ≤ k ∧ i = .int .i64 s ∧ OI wr wq.heap.size w4.heap.size (some ⟨gv, 0, none⟩) c4 (nwTo x k j s) ∧ Ext wq wr ∧ w4.heap.size ≤ wr.heap.size) (fun i _ => k - (intOf i).toNat)
        case atStart => exact ⟨0, Nat.zero_le _, rfl, q4, e4, Nat.le_refl _⟩
        case round =>
          clear q4 e4
          obtain ⟨s, hs, rfl, hV, hE, hz4⟩ := hrel
          have hPr := HPP.out.ext hE
          by_cases hsk : s < k
          · have isk : (s : Int) < (k : Int) := by omega
            rcases HFA.out s hsk with ⟨t, t1, t2, t3, t4⟩ | ⟨t4, t3⟩
            · have hcs := hPr.cellAt t3
              have ht0 : (0 : Int) ≤ (t : Int) := by omega
              obtain ⟨b4, o4, ra, rc, xs, rfl, hb4, hx4, hc4, hrow⟩ := (HXX.out.ext hE).reads.at_ t1
              have hxs : Hid (x.getD t [] = xs) := getD_some hx4.out
              have hrk := HRM.out.1.getD t1
              rw [hxs.out] at hrk
              have hjx : j < xs.length := by rw [hrk.2.1]; exact hlt3
              obtain ⟨b5, o5, y, rfl, hb5, hy, hcy⟩ := hrow.atI hjx
              have hye : Hid (ent xs j = y) := ent_some hy.out
              have HYR : Hid (inR y 0 1018 = true) := by rw [← hye.out]; exact inR_true.2 (ent_range hrk.1 j)
              have HNE : Hid (nullE x j s = (0 - y) % 1019) := by rw [← t2, nullE_piv HRM.out HFJ.out t1, hxs.out, hye.out]; exact Lib.hid rfl
              obtain ⟨z, hz⟩ : ∃ z, Hid (z = (0 - y) % 1019) := ⟨_, rfl⟩
              obtain ⟨s1, s2, s3, u, s4⟩ := hV.store s z (by rw [nwTo_length]; exact hsk)
              have HNW : Hid (nwTo x k j (s + 1) = (nwTo x k j s).set s z) := by rw [nwTo_set hsk, HNE.out, hz.out]; exact Lib.hid rfl
              rw [← HNW.out] at s1
              have s7 := Span.ext hE s2 (Nat.le_refl _)
              have s8 := s2.size
              have it : (t : Int) < (x.length : Int) := by omega
              have ijx : (j : Int) < (xs.length : Int) := by omega
              clear hV hE s2 hrk t2 t3 t4 hPr
              go_wp2_with (go_at_call 91; (with_reducible refine (specSubField_ok 0 y _ rfl HYR.out).mono ?_); rintro e w' ⟨rfl, rfl⟩; rw [← hz.out])
              go_roundw
              case rel => exact ⟨s + 1, by omega, by go_num, s1, s7, by omega⟩
              case measure => simp [intOf]; omega
            · have hcs := hPr.cellAt t3
              have HK := Lib.hid (nwTo_keep (f := j) hsk t4)
              rw [← HK.out] at hV
              clear t3 t4 hPr
              go_wp2_with fail
              go_roundw
              case rel => exact ⟨s + 1, by omega, by go_num, hV, hE, hz4⟩
              case measure => simp [intOf]; omega
          · rw [nwTo_all (by omega)] at hV
            obtain ⟨row, hro⟩ : ∃ row, Hid (row = nullV x k j) := ⟨_, rfl⟩
            rw [← hro.out] at hV HS
            have hrl : Hid (row.length = k) := by rw [hro.out]; exact nullV_length x k j
            obtain ⟨zss, hzs⟩ : ∃ zss, Hid (zss = yss ++ [row]) := ⟨_, rfl⟩
            have HZ : Hid (zss = nullTo x k (j + 1)) := by rw [hzs.out, HS.out]; exact Lib.hid rfl
            have hnew : Vals (wr.alloc (.cells #[.slice (some ⟨gv, 0, none⟩) k c4] 42)) (some ⟨wr.heap.size, 0, none⟩) [.slice (some ⟨gv, 0, none⟩) row.length c4] := by rw [hrl.out]; exact Vals.new wr [.slice (some ⟨gv, 0, none⟩) k c4] 42
            have A5 := (Ext.refl wr).alloc (.cells #[.slice (some ⟨gv, 0, none⟩) k c4] 42)
            have O5 := (HOO.out.ext hE).ext A5
            have R5 := (hV.ext A5).mono (C := wq.heap.size) (C2 := (wr.alloc (.cells #[.slice (some ⟨gv, 0, none⟩) k c4] 42)).heap.size) (Nat.le_refl _) (by simp; omega)
            have E5 := (he.trans hE).alloc (.cells #[.slice (some ⟨gv, 0, none⟩) k c4] 42)
            have P5 := Lib.hid (hPr.ext A5)
            have X5 := Lib.hid ((HXX.out.ext hE).ext A5)
            have hob := HOO.out.block
            have zr := hE.size_le
            have hapP : blockOf a3 ≠ some w2.heap.size := by
              obtain ⟨rs, q1, _⟩ := HOO.out
              exact fun e => block_ne q1 HPP.out.1 (by decide) w2.heap.size e rfl
            clear hV hE A5 HOO hPr
            go_wp2_with (at_builtin; refine wpList_appM2 _ rfl _ _ rfl w.heap.size wq.heap.size _ _ yss rfl O5 _ _ _ _ row rfl hnew R5 hsz (by simp; omega) zss hzs.out (by omega) ?_)
            intro a5 c5 w5 o5 g5 hb5
            have e5 := E5.grown g5 (fun k hk => (hob k hk).1)
            have p5 := P5.out.kept g5 (.inr (fun e => hapP e.symm))
            have x5 := X5.out.grownBy g5 (fun b hb => by have := HA3.out b hb; omega)
            have z5 := g5.size
            have HA5 : Hid (∀ b, blockOf a5 = some b → b < w1.heap.size ∨ w3.heap.size ≤ b) := fun b hb => by
              rcases hb5 with h1 | h1
              · exact HA3.out b (by rw [← h1]; exact hb)
              · rw [h1] at hb
                injection hb with hb
                omega
            simp at z5
            clear g5 E5 O5 R5 hnew hob P5 X5 hb5
            go_wp2_with fail
            go_roundw
            case rel => exact ⟨j + 1, a5, c5, zss, by omega, by go_num, rfl, HZ, o5, p5, x5, e5, HA5, by omega⟩
            case measure => simp [intOf]; omega

theorem nsp_bound (m : List (List Int)) : (nsp m).length ≤ 40 ∧ ∀ xs ∈ nsp m, xs.length ≤ 40 := by
  unfold nsp
  split
  · rename_i h
    have hc := cols_le (validM_true.1 h).1
    have h1 := nullTo_len (rowRed m) (cols m) (cols m)
    exact ⟨by omega, fun xs hx => (validV_true.1 (nullTo_VR hc xs hx).1).2⟩
  · simp
theorem nsp_tot (m : List (List Int)) : (nsp m).length ≤ 1048576 ∧ tot (nsp m) ≤ 1048576 := by
  obtain ⟨h1, h2⟩ := nsp_bound m
  have := tot_le h2
  omega

set_option maxHeartbeats 4000000 in
set_option maxRecDepth 100000 in
theorem lawNullSpace (a0 : Option Addr) (c0 : Nat) (xss0 : List (List Int)) (w : World) (r0_0 : MatR w a0 xss0) (m0_0 : xss0.length ≤ maxLen) (m0_1 : ∀ xs ∈ xss0, xs.length ≤ maxLen) :
    Calls Try.prog 4 #[.slice a0 xss0.length c0] w (Gives w (.bool true)) := by
  replace m0_1 := Lib.hid m0_1
  by_cases hs0 : szM xss0 1048576 < 0
  · skip
    go_enter Try.func4, Try.ntmps4
    go_wp2_with fail
    refine (szIntSS_ok _ _ _ _ _ (r0_0.ext (Ext.refl w)) m0_0 m0_1.out (by omega) (by omega)).mono ?_
    rintro e w1 ⟨rfl, rfl⟩
    go_wp2_with fail
    go_ret
    exact ⟨rfl, Ext.refl w⟩
  obtain ⟨hle0, heq0⟩ := szM_le (Int.not_lt.1 hs0)
  have hl0 : xss0.length ≤ 1048576 := by omega
  have hr0 : Hid (∀ xs ∈ xss0, xs.length ≤ 1048576) := fun xs hx => by have := rows_le hx; omega
  have ht0 : tot xss0 ≤ 1099511627776 := by omega
  have hu0 : tot xss0 ≤ 1048576 := by omega
  have hf0 : szM xss0 1048576 ≤ 1048576 := by omega
  have hg0 : 0 ≤ szM xss0 1048576 := by omega
  replace heq0 := Lib.hid heq0
  have hres : (nsp xss0).length ≤ 1048576 ∧ tot (nsp xss0) ≤ 1048576 := (nsp_tot xss0)
  have hrr : Hid (∀ xs ∈ (nsp xss0), xs.length ≤ 1048576) := fun xs hx => by have := rows_le hx; omega
  obtain ⟨hres1, hres2⟩ := hres
  have hres : (nsp xss0).length ≤ 1048576 ∧ tot (nsp xss0) ≤ 1048576 := ⟨hres1, hres2⟩
  go_enter Try.func4, Try.ntmps4
  go_wp2_with fail
  refine (szIntSS_ok _ _ _ _ _ (r0_0.ext (Ext.refl w)) m0_0 m0_1.out (by omega) (by omega)).mono ?_
  rintro e w1 ⟨rfl, rfl⟩
  go_wp2_with fail
  refine (toIntSS_ok _ _ _ _ (r0_0.ext (Ext.refl w)) hl0 hr0.out).mono ?_
  rintro e w1 ⟨t1a, t1c, rfl, t1o, e1⟩
  have E := (Ext.refl w).trans e1
  have z0 := e1.size_le
  go_wp2_with fail
  refine (specNullSpace_ok _ _ _ _ (t1o.reads) hl0 hr0.out).mono ?_
  rintro e w2 ⟨u0a, u0c, rfl, u0o, e2⟩
  have z2 := e2.size_le
  replace t1o := t1o.ext e2
  replace E := E.trans e2
  clear e2
  go_wp2_with fail
  refine (toIntSS_ok _ _ _ _ (r0_0.ext (E)) hl0 hr0.out).mono ?_
  rintro e w3 ⟨t3a, t3c, rfl, t3o, e3⟩
  have z3 := e3.size_le
  replace u0o := u0o.ext e3
  replace E := E.trans e3
  clear e3
  go_wp2_with fail
  refine (implNullSpace_ok _ _ _ _ (t3o.reads) hl0 hr0.out).mono ?_
  rintro e w4 ⟨u1a, u1c, rfl, u1o, e4⟩
  have z4 := e4.size_le
  replace u0o := u0o.ext e4
  replace t3o := t3o.ext e4
  replace E := E.trans e4
  clear e4
  go_wp2_with fail
  refine (eqIntSS_ok _ _ _ _ _ _ _ (u1o.reads) (u0o.reads) (by omega) (fun xs hx => Nat.le_trans (hrr.out xs hx) (by omega))).mono ?_
  rintro e w5 ⟨rfl, e5⟩
  replace e5 := Dr.ext e5
  have z5 := e5.size_le
  replace u0o := u0o.ext e5
  replace t3o := t3o.ext e5
  replace u1o := u1o.ext e5
  replace E := E.trans e5
  clear e5
  go_wp2_with fail
  refine (toIntSS_ok _ _ _ _ (r0_0.ext (E)) hl0 hr0.out).mono ?_
  rintro e w6 ⟨t6a, t6c, rfl, t6o, e6⟩
  have z6 := e6.size_le
  replace u0o := u0o.ext e6
  replace t3o := t3o.ext e6
  replace u1o := u1o.ext e6
  replace E := E.trans e6
  clear e6
  go_wp2_with fail
  refine (eqIntSS_ok _ _ _ _ _ _ _ (t3o.reads) (t6o.reads) (by omega) (fun xs hx => Nat.le_trans (hr0.out xs hx) (by omega))).mono ?_
  rintro e w7 ⟨rfl, e7⟩
  replace e7 := Dr.ext e7
  have z7 := e7.size_le
  replace u0o := u0o.ext e7
  replace t3o := t3o.ext e7
  replace u1o := u1o.ext e7
  replace E := E.trans e7
  clear e7
  go_wp2_with fail
  refine (markIntSS_ok _ _ _ _ _ _ _ t3o (by omega) ht0 (by omega) (by omega)).mono ?_
  rintro e w8 ⟨rfl, t3o', s8⟩
  have z8 := s8.size
  replace u0o := u0o.span s8 (by omega)
  replace u1o := u1o.span s8 (by omega)
  replace E := Span.ext E s8 (by omega)
  clear s8 t3o
  have t3o := t3o'
  clear t3o'
  go_wp2_with fail
  refine (eqIntSS_ok _ _ _ _ _ _ _ (u1o.reads) (u0o.reads) (by omega) (fun xs hx => Nat.le_trans (hrr.out xs hx) (by omega))).mono ?_
  rintro e w9 ⟨rfl, e9⟩
  replace e9 := Dr.ext e9
  have z9 := e9.size_le
  replace u0o := u0o.ext e9
  replace u1o := u1o.ext e9
  replace E := E.trans e9
  clear e9
  go_wp2_with fail
  refine (markIntSS_ok _ _ _ _ _ _ _ u1o (by omega) (Nat.le_trans hres.2 (by omega)) (by omega) (by omega)).mono ?_
  rintro e w10 ⟨rfl, u1o', s10⟩
  have z10 := s10.size
  replace u0o := u0o.span s10 (by omega)
  replace E := Span.ext E s10 (by omega)
  clear s10 u1o
  have u1o := u1o'
  clear u1o'
  go_wp2_with fail
  refine (heldIntSS_ok _ _ _ _ _ (u1o.reads) (by omega) (Nat.le_trans hres.2 (by omega)) (by omega) (by omega)).mono ?_
  rintro e w11 ⟨rfl, rfl⟩
  go_wp2_with fail
  refine (toIntSS_ok _ _ _ _ (r0_0.ext (E)) hl0 hr0.out).mono ?_
  rintro e w11 ⟨t11a, t11c, rfl, t11o, e11⟩
  have z11 := e11.size_le
  replace u0o := u0o.ext e11
  replace u1o := u1o.ext e11
  replace E := E.trans e11
  clear e11
  go_wp2_with fail
  refine (implNullSpace_ok _ _ _ _ (t11o.reads) hl0 hr0.out).mono ?_
  rintro e w12 ⟨u2a, u2c, rfl, u2o, e12⟩
  have z12 := e12.size_le
  replace u0o := u0o.ext e12
  replace u1o := u1o.ext e12
  replace t11o := t11o.ext e12
  replace E := E.trans e12
  clear e12
  go_wp2_with fail
  refine (eqIntSS_ok _ _ _ _ _ _ _ (u2o.reads) (u0o.reads) (by omega) (fun xs hx => Nat.le_trans (hrr.out xs hx) (by omega))).mono ?_
  rintro e w13 ⟨rfl, e13⟩
  replace e13 := Dr.ext e13
  have z13 := e13.size_le
  replace u0o := u0o.ext e13
  replace u1o := u1o.ext e13
  replace u2o := u2o.ext e13
  replace E := E.trans e13
  clear e13
  go_wp2_with fail
  refine (heldIntSS_ok _ _ _ _ _ (u1o.reads) (by omega) (Nat.le_trans hres.2 (by omega)) (by omega) (by omega)).mono ?_
  rintro e w14 ⟨rfl, rfl⟩
  go_wp2_with fail
  go_ret
  exact ⟨rfl, E⟩

end Go.Proofs.Ytjcgnpnnhejfhaa
