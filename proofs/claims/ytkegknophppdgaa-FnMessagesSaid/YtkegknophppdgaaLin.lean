/- The field of 1019 elements, sums, spans, reduced rows: a span has one reduced form. No program is named. -/
import Derived.WalkKit
namespace Go.Proofs.Ytkegknophppdgaa
set_option linter.unusedVariables false
set_option maxRecDepth 20000

abbrev K := Fin 1019
def toK (x : Int) : K := ⟨(x % 1019).toNat, by omega⟩
theorem toK_val (x : Int) : ((toK x).val : Int) = x % 1019 := by simp [toK]; omega
theorem K_ext {a b : K} (h : ((a.val : Int)) = b.val) : a = b := Fin.ext (by omega)
theorem toK_mod (x : Int) : toK (x % 1019) = toK x := K_ext (by rw [toK_val, toK_val]; omega)
theorem toK_add (x y : Int) : toK (x + y) = toK x + toK y := by
  apply K_ext
  rw [toK_val, Fin.val_add, Int.natCast_emod, Int.natCast_add, toK_val, toK_val]
  omega
theorem toK_mul (x y : Int) : toK (x * y) = toK x * toK y := by
  apply K_ext
  rw [toK_val, Fin.val_mul, Int.natCast_emod, Int.natCast_mul, toK_val, toK_val, Int.mul_emod]
  simp
theorem toK_sub (x y : Int) : toK (x - y) = toK x - toK y := by
  have h : toK x = toK (x - y) + toK y := by rw [← toK_add]; congr 1; omega
  grind
theorem toK_zero : toK 0 = 0 := by decide
theorem toK_one : toK 1 = 1 := by decide
theorem toK_p : toK 1019 = 0 := by decide
theorem K_one_ne : (1 : K) ≠ 0 := by decide
theorem toK_inj {x y : Int} (h1 : 0 ≤ x) (h2 : x ≤ 1018) (h3 : 0 ≤ y) (h4 : y ≤ 1018) (h : toK x = toK y) : x = y := by
  have h5 := toK_val x
  have h6 := toK_val y
  rw [h] at h5
  omega
theorem toK_eq_zero {x : Int} (h1 : 0 ≤ x) (h2 : x ≤ 1018) : toK x = 0 ↔ x = 0 :=
  ⟨fun h => toK_inj h1 h2 (by omega) (by omega) (h.trans toK_zero.symm), fun h => by rw [h]; exact toK_zero⟩

/-- A power modulo a number, as the programs compute it. -/
def powF : Nat → Int → Int → Nat → Int → Int
  | 0, out, _, _, _ => out
  | f + 1, out, a, n, m => if n = 0 then out else powF f (if n % 2 = 1 then out * a % m else out) (a * a % m) (n / 2) m
def invI (a : Int) : Int := powF 41 1 a 1017 1019
theorem inv_all : ∀ a : Nat, a < 1019 → a = 0 ∨ ((a : Int) * invI (a : Int) % 1019 = 1 ∧ 0 ≤ invI (a : Int) ∧ invI (a : Int) ≤ 1018) := by decide +kernel
theorem invI_mul {a : Int} (h1 : 0 ≤ a) (h2 : a ≤ 1018) (h0 : a ≠ 0) : a * invI a % 1019 = 1 ∧ 0 ≤ invI a ∧ invI a ≤ 1018 := by
  obtain ⟨n, rfl⟩ := Int.eq_ofNat_of_zero_le h1
  rcases inv_all n (by omega) with h | h
  · omega
  · exact h
theorem invI_zero : invI 0 = 0 := by decide +kernel
theorem invI_range {a : Int} (h1 : 0 ≤ a) (h2 : a ≤ 1018) : 0 ≤ invI a ∧ invI a ≤ 1018 := by
  by_cases h : a = 0
  · rw [h, invI_zero]; omega
  · exact (invI_mul h1 h2 h).2
theorem invI_K {a : Int} (h1 : 0 ≤ a) (h2 : a ≤ 1018) (h0 : a ≠ 0) : toK a * toK (invI a) = 1 := by
  rw [← toK_mul, ← toK_mod, (invI_mul h1 h2 h0).1]; exact toK_one
theorem K_inv (a : K) (h : a ≠ 0) : ∃ b : K, a * b = 1 := by
  have e : toK (a.val : Int) = a := K_ext (by rw [toK_val]; have := a.isLt; omega)
  have := a.isLt
  exact ⟨toK (invI (a.val : Int)), by rw [← invI_K (a := (a.val : Int)) (by omega) (by omega) (fun hh => h (Fin.ext (by simpa using hh))), e]⟩
theorem K_dom {a b : K} (h : a * b = 0) : a = 0 ∨ b = 0 := by
  by_cases ha : a = 0
  · exact .inl ha
  · obtain ⟨c, hc⟩ := K_inv a ha
    exact .inr (by grind)

/-- The sum of the first n values. -/
def sumN : Nat → (Nat → K) → K
  | 0, _ => 0
  | n + 1, f => sumN n f + f n
theorem sumN_congr {n : Nat} {f g : Nat → K} (h : ∀ i, i < n → f i = g i) : sumN n f = sumN n g := by
  induction n with
  | zero => rfl
  | succ n ih => simp only [sumN]; rw [ih (fun i hi => h i (by omega)), h n (by omega)]
theorem sumN_zero {n : Nat} {f : Nat → K} (h : ∀ i, i < n → f i = 0) : sumN n f = 0 := by
  induction n with
  | zero => rfl
  | succ n ih => simp only [sumN]; rw [ih (fun i hi => h i (by omega)), h n (by omega)]; grind
theorem sumN_add (n : Nat) (f g : Nat → K) : sumN n (fun i => f i + g i) = sumN n f + sumN n g := by
  induction n with
  | zero => simp only [sumN]; grind
  | succ n ih => simp only [sumN]; rw [ih]; grind
theorem sumN_mul (n : Nat) (k : K) (f : Nat → K) : sumN n (fun i => k * f i) = k * sumN n f := by
  induction n with
  | zero => simp only [sumN]; grind
  | succ n ih => simp only [sumN]; rw [ih]; grind
theorem sumN_one {n : Nat} {f : Nat → K} {k : Nat} (hk : k < n) (h : ∀ i, i < n → i ≠ k → f i = 0) : sumN n f = f k := by
  induction n with
  | zero => omega
  | succ n ih =>
    simp only [sumN]
    by_cases hkn : k = n
    · subst hkn
      rw [sumN_zero (fun i hi => h i (by omega) (by omega))]; grind
    · rw [ih (by omega) (fun i hi hne => h i (by omega) hne), h n (by omega) (by omega)]; grind
theorem sumN_comm (n m : Nat) (f : Nat → Nat → K) : sumN n (fun i => sumN m (fun j => f i j)) = sumN m (fun j => sumN n (fun i => f i j)) := by
  induction n with
  | zero => simp only [sumN]; exact (sumN_zero (fun _ _ => rfl)).symm
  | succ n ih => simp only [sumN]; rw [ih, ← sumN_add]

abbrev Vec := Nat → K
/-- v is a combination of the first r rows. -/
def InSp (r : Nat) (R : Nat → Vec) (v : Vec) : Prop := ∃ f : Nat → K, ∀ j, v j = sumN r (fun i => f i * R i j)
theorem InSp.congr {r : Nat} {R : Nat → Vec} {v u : Vec} (h : InSp r R v) (e : ∀ j, u j = v j) : InSp r R u := by
  obtain ⟨f, hf⟩ := h
  exact ⟨f, fun j => (e j).trans (hf j)⟩
theorem InSp.zero (r : Nat) (R : Nat → Vec) : InSp r R (fun _ => 0) := ⟨fun _ => 0, fun j => (sumN_zero (fun i _ => by grind)).symm⟩
theorem InSp.add {r : Nat} {R : Nat → Vec} {v u : Vec} (h : InSp r R v) (h' : InSp r R u) (k : K) : InSp r R (fun j => v j + k * u j) := by
  obtain ⟨f, hf⟩ := h
  obtain ⟨g, hg⟩ := h'
  refine ⟨fun i => f i + k * g i, fun j => ?_⟩
  show v j + k * u j = _
  rw [hf j, hg j, ← sumN_mul, ← sumN_add]
  exact sumN_congr (fun i _ => by grind)
theorem InSp.mul {r : Nat} {R : Nat → Vec} {v : Vec} (h : InSp r R v) (k : K) : InSp r R (fun j => k * v j) := by
  exact ((InSp.zero r R).add h k).congr (fun j => by grind)
theorem InSp.row {r : Nat} (R : Nat → Vec) {i : Nat} (hi : i < r) : InSp r R (R i) := by
  refine ⟨fun k => if k = i then 1 else 0, fun j => ?_⟩
  rw [sumN_one hi (fun k _ hk => by simp only [if_neg hk]; grind)]
  simp only [if_true]
  grind
theorem InSp.trans {r s : Nat} {R S : Nat → Vec} {v : Vec} (h : InSp r R v) (h' : ∀ i, i < r → InSp s S (R i)) : InSp s S v := by
  obtain ⟨f, hf⟩ := h
  suffices H : ∀ q, q ≤ r → InSp s S (fun j => sumN q (fun i => f i * R i j)) from (H r (Nat.le_refl _)).congr hf
  intro q
  induction q with
  | zero => intro _; exact (InSp.zero s S).congr (fun j => rfl)
  | succ q ih => intro hq; exact (ih (by omega)).add (h' q (by omega)) (f q) |>.congr (fun j => rfl)
/-- The same span. -/
def SameSp (r : Nat) (R : Nat → Vec) (s : Nat) (S : Nat → Vec) : Prop := (∀ i, i < r → InSp s S (R i)) ∧ ∀ i, i < s → InSp r R (S i)
theorem SameSp.refl (r : Nat) (R : Nat → Vec) : SameSp r R r R := ⟨fun i hi => InSp.row R hi, fun i hi => InSp.row R hi⟩
theorem SameSp.symm {r s : Nat} {R S : Nat → Vec} (h : SameSp r R s S) : SameSp s S r R := ⟨h.2, h.1⟩
theorem SameSp.trans {r s t : Nat} {R S T : Nat → Vec} (h : SameSp r R s S) (h' : SameSp s S t T) : SameSp r R t T :=
  ⟨fun i hi => (h.1 i hi).trans h'.1, fun i hi => (h'.2 i hi).trans h.2⟩
theorem SameSp.iff {r s : Nat} {R S : Nat → Vec} (h : SameSp r R s S) (v : Vec) : InSp r R v ↔ InSp s S v := ⟨fun k => k.trans h.1, fun k => k.trans h.2⟩

/-- Reduced rows, with the columns of their pivots. -/
structure Red (r : Nat) (R : Nat → Vec) (P : Nat → Nat) : Prop where
  mono : ∀ i j, i < j → j < r → P i < P j
  one : ∀ i, i < r → R i (P i) = 1
  zero : ∀ i, i < r → ∀ j, j < P i → R i j = 0
  other : ∀ i k, i < r → k < r → k ≠ i → R k (P i) = 0

theorem Red.coords {r : Nat} {R : Nat → Vec} {P : Nat → Nat} (h : Red r R P) {v : Vec} (hv : InSp r R v) (j : Nat) : v j = sumN r (fun i => v (P i) * R i j) := by
  obtain ⟨f, hf⟩ := hv
  rw [hf j]
  refine sumN_congr (fun k hk => ?_)
  rw [hf (P k), sumN_one hk (fun i hi hne => by rw [h.other k i hk hi hne]; grind), h.one k hk]
  grind
theorem Red.inj {r : Nat} {R : Nat → Vec} {P : Nat → Nat} (h : Red r R P) {v : Vec} (hv : InSp r R v) (hz : ∀ i, i < r → v (P i) = 0) (j : Nat) : v j = 0 := by
  rw [h.coords hv j]
  exact sumN_zero (fun i hi => by rw [hz i hi]; grind)
theorem least {r : Nat} {p : Nat → Prop} (h : ∃ i, i < r ∧ p i) : ∃ i, i < r ∧ p i ∧ ∀ k, k < i → ¬ p k := by
  induction r with
  | zero => obtain ⟨i, hi, _⟩ := h; omega
  | succ r ih =>
    by_cases hr : ∃ i, i < r ∧ p i
    · obtain ⟨i, h1, h2, h3⟩ := ih hr
      exact ⟨i, by omega, h2, h3⟩
    · obtain ⟨i, hi, hp⟩ := h
      have : i = r := by
        by_cases e : i = r
        · exact e
        · exact absurd ⟨i, by omega, hp⟩ hr
      subst this
      exact ⟨i, hi, hp, fun k hk hpk => hr ⟨k, hk, hpk⟩⟩
theorem Red.lead {r : Nat} {R : Nat → Vec} {P : Nat → Nat} (h : Red r R P) {v : Vec} (hv : InSp r R v) (hn : ∃ j, v j ≠ 0) : ∃ i, i < r ∧ v (P i) ≠ 0 ∧ ∀ j, j < P i → v j = 0 := by
  have h1 : ∃ i, i < r ∧ v (P i) ≠ 0 := by
    apply Classical.byContradiction
    intro hc
    obtain ⟨j, hj⟩ := hn
    exact hj (h.inj hv (fun i hi => Classical.byContradiction fun hne => hc ⟨i, hi, hne⟩) j)
  obtain ⟨i, hi, hp, hl⟩ := least h1
  refine ⟨i, hi, hp, fun j hj => ?_⟩
  rw [h.coords hv j]
  refine sumN_zero (fun k hk => ?_)
  by_cases hki : k < i
  · have : v (P k) = 0 := Classical.byContradiction fun hne => hl k hki hne
    rw [this]; grind
  · have hle : P i ≤ P k := by
      by_cases e : k = i
      · rw [e]; exact Nat.le_refl _
      · exact Nat.le_of_lt (h.mono i k (by omega) hk)
    rw [h.zero k hk j (by omega)]; grind
theorem Red.hit {r s : Nat} {R S : Nat → Vec} {P Q : Nat → Nat} (h : Red r R P) (h' : Red s S Q) (hs : SameSp r R s S) {i : Nat} (hi : i < r) : ∃ k, k < s ∧ Q k = P i := by
  obtain ⟨k, hk, hne, hz⟩ := h'.lead (hs.1 i hi) ⟨P i, by rw [h.one i hi]; exact K_one_ne⟩
  refine ⟨k, hk, ?_⟩
  rcases Nat.lt_trichotomy (Q k) (P i) with hlt | heq | hgt
  · exact absurd (h.zero i hi _ hlt) hne
  · exact heq
  · exact absurd ((h.one i hi).symm.trans (hz _ hgt)) K_one_ne
theorem Red.pivots {r s : Nat} {R S : Nat → Vec} {P Q : Nat → Nat} (h : Red r R P) (h' : Red s S Q) (hs : SameSp r R s S) : ∀ i, i < r → i < s ∧ P i = Q i := by
  intro i
  induction i using Nat.strongRecOn with
  | _ i ih =>
    intro hi
    obtain ⟨k, hk, hke⟩ := h.hit h' hs hi
    have hki : i ≤ k := by
      rcases Nat.lt_or_ge k i with hlt | hge
      · have := (ih k hlt (by omega)).2
        have := h.mono k i hlt hi
        omega
      · exact hge
    have his : i < s := by omega
    obtain ⟨l, hl, hle⟩ := h'.hit h hs.symm his
    have hli : i ≤ l := by
      rcases Nat.lt_or_ge l i with hlt | hge
      · have := (ih l hlt (by omega)).2
        have := h'.mono l i hlt his
        omega
      · exact hge
    refine ⟨his, ?_⟩
    have e1 : Q i ≤ Q k := by
      rcases Nat.lt_or_ge i k with hlt | hge
      · exact Nat.le_of_lt (h'.mono i k hlt hk)
      · rw [show i = k by omega]; exact Nat.le_refl _
    have e2 : P i ≤ P l := by
      rcases Nat.lt_or_ge i l with hlt | hge
      · exact Nat.le_of_lt (h.mono i l hlt hl)
      · rw [show i = l by omega]; exact Nat.le_refl _
    omega
/-- A span has one reduced form. -/
theorem Red.unique {r s : Nat} {R S : Nat → Vec} {P Q : Nat → Nat} (h : Red r R P) (h' : Red s S Q) (hs : SameSp r R s S) : r = s ∧ ∀ i, i < r → P i = Q i ∧ ∀ j, R i j = S i j := by
  have h1 := h.pivots h' hs
  have h2 := h'.pivots h hs.symm
  have hrs : r = s := by
    rcases Nat.lt_trichotomy r s with hlt | heq | hgt
    · have := (h2 r hlt).1; omega
    · exact heq
    · have := (h1 s hgt).1; omega
  subst hrs
  refine ⟨rfl, fun i hi => ⟨(h1 i hi).2, fun j => ?_⟩⟩
  rw [h'.coords (hs.1 i hi) j, sumN_one hi (fun k hk hne => by rw [← (h1 k hk).2, h.other k i hk hi (fun e => hne e.symm)]; grind), ← (h1 i hi).2, h.one i hi]
  grind

end Go.Proofs.Ytkegknophppdgaa
