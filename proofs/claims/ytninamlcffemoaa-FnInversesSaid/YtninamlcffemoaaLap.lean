/- Determinants over the field: expansion along the first column; alternating functions of rows; the transpose. No program is named. -/
import Derived.Test.YtninamlcffemoaaLin
namespace Go.Proofs.Ytninamlcffemoaa
set_option linter.unusedVariables false
set_option maxRecDepth 20000

/-- The index of row a where row i is left out. -/
def skp (i a : Nat) : Nat := if a < i then a else a + 1
def sgn (i : Nat) : K := if i % 2 = 0 then 1 else -1
theorem sgn_succ (i : Nat) : sgn (i + 1) = - sgn i := by
  unfold sgn
  by_cases h : i % 2 = 0
  · rw [if_pos h, if_neg (by omega)]
  · rw [if_neg h, if_pos (by omega)]; grind
theorem sgn_zero : sgn 0 = 1 := rfl
def minr (i : Nat) (R : Nat → Vec) : Nat → Vec := fun a b => R (skp i a) (b + 1)
def DK : Nat → (Nat → Vec) → K
  | 0, _ => 1
  | n + 1, R => sumN (n + 1) (fun i => sgn i * R i 0 * DK n (minr i R))
theorem skp_lt {i a n : Nat} (ha : a < n) : skp i a < n + 1 := by unfold skp; split <;> omega
theorem skp_ne (i a : Nat) : skp i a ≠ i := by unfold skp; split <;> omega

def upd (R : Nat → Vec) (p : Nat) (u : Vec) : Nat → Vec := fun i => if i = p then u else R i
theorem upd_same (R : Nat → Vec) (p : Nat) (u : Vec) : upd R p u p = u := by unfold upd; rw [if_pos rfl]
theorem upd_ne (R : Nat → Vec) {p i : Nat} (u : Vec) (h : i ≠ p) : upd R p u i = R i := by unfold upd; rw [if_neg h]

/-- A function of n rows that is linear in each row and is 0 where two rows beside each other are the same. -/
structure Alt (n : Nat) (F : (Nat → Vec) → K) : Prop where
  congr : ∀ R S : Nat → Vec, (∀ i, i < n → ∀ j, j < n → R i j = S i j) → F R = F S
  lin : ∀ (R : Nat → Vec) (p : Nat) (u v : Vec) (k : K), p < n → F (upd R p (fun j => u j + k * v j)) = F (upd R p u) + k * F (upd R p v)
  adj : ∀ (R : Nat → Vec) (p : Nat), p + 1 < n → (∀ j, j < n → R p j = R (p + 1) j) → F R = 0

theorem sumN_two {n : Nat} {f : Nat → K} {p : Nat} (hp : p + 1 < n) (h : ∀ i, i < n → i ≠ p → i ≠ p + 1 → f i = 0) : sumN n f = f p + f (p + 1) := by
  induction n with
  | zero => omega
  | succ n ih =>
    simp only [sumN]
    by_cases e : p + 1 = n
    · subst e
      rw [sumN_one (k := p) (by omega) (fun i hi hne => h i (by omega) hne (by omega))]
    · rw [ih (by omega) (fun i hi h1 h2 => h i (by omega) h1 h2), h n (by omega) (by omega) (by omega)]; grind

theorem DK_congr : ∀ (n : Nat) (R S : Nat → Vec), (∀ i, i < n → ∀ j, j < n → R i j = S i j) → DK n R = DK n S := by
  intro n
  induction n with
  | zero => intro R S _; rfl
  | succ n ih =>
    intro R S h
    simp only [DK]
    refine sumN_congr fun i hi => ?_
    rw [h i hi 0 (by omega), ih (minr i R) (minr i S) (fun a ha b hb => h _ (skp_lt ha) _ (by omega))]

theorem minr_upd_same (R : Nat → Vec) (p : Nat) (u : Vec) : minr p (upd R p u) = minr p R := by
  funext a b
  unfold minr
  rw [upd_ne _ _ (skp_ne p a)]
theorem minr_upd_ne (R : Nat → Vec) {i p : Nat} (h : i ≠ p) (u : Vec) : minr i (upd R p u) = upd (minr i R) (if p < i then p else p - 1) (fun b => u (b + 1)) := by
  funext a b
  unfold minr upd skp
  by_cases h1 : a < i <;> by_cases h2 : p < i <;> simp only [h1, h2, if_true, if_false]
  · by_cases e : a = p <;> simp [e]
  · rw [if_neg (by omega), if_neg (by omega)]
  · rw [if_neg (by omega), if_neg (by omega)]
  · by_cases e : a + 1 = p
    · rw [if_pos e, if_pos (by omega)]
    · rw [if_neg e, if_neg (by omega)]

theorem DK_lin : ∀ (n : Nat) (R : Nat → Vec) (p : Nat) (u v : Vec) (k : K), p < n → DK n (upd R p (fun j => u j + k * v j)) = DK n (upd R p u) + k * DK n (upd R p v) := by
  intro n
  induction n with
  | zero => intro R p u v k hp; omega
  | succ n ih =>
    intro R p u v k hp
    simp only [DK]
    rw [← sumN_mul, ← sumN_add]
    refine sumN_congr fun i hi => ?_
    by_cases e : i = p
    · subst e
      rw [minr_upd_same, minr_upd_same, minr_upd_same, upd_same, upd_same, upd_same]; grind
    · rw [minr_upd_ne R e, minr_upd_ne R e, minr_upd_ne R e, upd_ne _ _ e, upd_ne _ _ e, upd_ne _ _ e]
      have hq : (if p < i then p else p - 1) < n := by split <;> omega
      have := ih (minr i R) (if p < i then p else p - 1) (fun b => u (b + 1)) (fun b => v (b + 1)) k hq
      rw [this]; grind

theorem DK_adj : ∀ (n : Nat) (R : Nat → Vec) (p : Nat), p + 1 < n → (∀ j, j < n → R p j = R (p + 1) j) → DK n R = 0 := by
  intro n
  induction n with
  | zero => intro R p hp; omega
  | succ n ih =>
    intro R p hp h
    simp only [DK]
    have hz : ∀ i, i < n + 1 → i ≠ p → i ≠ p + 1 → sgn i * R i 0 * DK n (minr i R) = 0 := by
      intro i hi h1 h2
      have : DK n (minr i R) = 0 := by
        refine ih (minr i R) (if p < i then p else p - 1) (by split <;> omega) (fun j hj => ?_)
        unfold minr skp
        by_cases hlt : p < i
        · rw [if_pos hlt, if_pos hlt, if_pos (by omega)]; exact h _ (by omega)
        · rw [if_neg hlt, if_neg (by omega), if_neg (by omega), show p - 1 + 1 = p by omega]; exact h _ (by omega)
      rw [this]; grind
    rw [sumN_two hp hz]
    have hm : DK n (minr (p + 1) R) = DK n (minr p R) := by
      refine DK_congr n _ _ fun a ha b hb => ?_
      unfold minr skp
      by_cases e : a = p
      · subst e
        rw [if_pos (by omega), if_neg (by omega)]; exact h _ (by omega)
      · by_cases hlt : a < p
        · rw [if_pos (by omega), if_pos hlt]
        · rw [if_neg (by omega), if_neg hlt]
    rw [hm, ← h 0 (by omega), sgn_succ]; grind

theorem DK_alt (n : Nat) : Alt n (DK n) := ⟨DK_congr n, DK_lin n, DK_adj n⟩

section
variable {n : Nat} {F : (Nat → Vec) → K} (h : Alt n F)
include h
theorem Alt.zeroU (R : Nat → Vec) {p : Nat} (hp : p < n) : F (upd R p (fun _ => 0)) = 0 := by
  have := h.lin R p (fun _ => 0) (fun _ => 0) 1 hp
  rw [show (fun j : Nat => (0 : K) + 1 * 0) = (fun _ => 0) from funext fun _ => by grind] at this
  grind
theorem Alt.mulU (R : Nat → Vec) {p : Nat} (hp : p < n) (u : Vec) (k : K) : F (upd R p (fun j => k * u j)) = k * F (upd R p u) := by
  have := h.lin R p (fun _ => 0) u k hp
  rw [h.zeroU R hp] at this
  rw [show (fun j : Nat => (0 : K) + k * u j) = (fun j => k * u j) from funext fun _ => by grind] at this
  rw [this]; grind
theorem Alt.zeroRow {R : Nat → Vec} {p : Nat} (hp : p < n) (hz : ∀ j, j < n → R p j = 0) : F R = 0 := by
  rw [← h.zeroU R hp]
  refine h.congr _ _ fun i hi j hj => ?_
  by_cases e : i = p
  · subst e; rw [upd_same]; exact hz j hj
  · rw [upd_ne _ _ e]
theorem Alt.addU (R : Nat → Vec) {p : Nat} (hp : p < n) (u v : Vec) : F (upd R p (fun j => u j + v j)) = F (upd R p u) + F (upd R p v) := by
  have := h.lin R p u v 1 hp
  rw [show (fun j : Nat => u j + 1 * v j) = (fun j => u j + v j) from funext fun _ => by grind] at this
  rw [this]; grind
omit h in
theorem upd_comm (R : Nat → Vec) {p q : Nat} (hne : p ≠ q) (u v : Vec) : upd (upd R p u) q v = upd (upd R q v) p u := by
  funext i j
  unfold upd
  by_cases e : i = q
  · rw [if_pos e, if_neg (by omega), if_pos e]
  · rw [if_neg e]
    by_cases e2 : i = p
    · rw [if_pos e2, if_pos e2]
    · rw [if_neg e2, if_neg e2, if_neg e]
/-- Two rows change places: where equal rows give 0, the sign changes. -/
theorem Alt.swapOf {p q : Nat} (hp : p < n) (hq : q < n) (hne : p ≠ q) (hz : ∀ R : Nat → Vec, (∀ j, j < n → R p j = R q j) → F R = 0) (R : Nat → Vec) (u v : Vec) :
    F (upd (upd R p u) q v) = - F (upd (upd R p v) q u) := by
  have z : ∀ x : Vec, F (upd (upd R p x) q x) = 0 := fun x => hz _ fun j _ => by rw [upd_ne _ _ hne, upd_same, upd_same]
  have e1 := z (fun j => u j + v j)
  rw [h.addU _ hq, upd_comm R hne, upd_comm R hne, h.addU _ hp, h.addU _ hp, ← upd_comm R hne, ← upd_comm R hne, ← upd_comm R hne, ← upd_comm R hne, z u, z v] at e1
  grind
omit h in
theorem upd_id (R : Nat → Vec) (p : Nat) : upd R p (R p) = R := by
  funext i
  unfold upd
  by_cases e : i = p
  · rw [if_pos e, e]
  · rw [if_neg e]
def swp (R : Nat → Vec) (p q : Nat) : Nat → Vec := upd (upd R p (R q)) q (R p)
theorem Alt.eqUp : ∀ (d : Nat) (R : Nat → Vec) (p : Nat), p + 1 + d < n → (∀ j, j < n → R p j = R (p + 1 + d) j) → F R = 0 := by
  intro d
  induction d with
  | zero => intro R p hp he; exact h.adj R p hp he
  | succ d ih =>
    intro R p hp he
    have hsw := h.swapOf (p := p + 1 + d) (q := p + 1 + d + 1) (by omega) (by omega) (by omega) (fun S hS => h.adj S _ (by omega) hS) R (R (p + 1 + d)) (R (p + 1 + d + 1))
    rw [upd_id, upd_id] at hsw
    rw [hsw, ih _ p (by omega) (fun j hj => ?_)]
    · grind
    · rw [upd_ne _ _ (by omega), upd_ne _ _ (by omega), upd_ne _ _ (by omega), upd_same]
      exact he j hj
theorem Alt.eqRows {R : Nat → Vec} {p q : Nat} (hp : p < n) (hq : q < n) (hne : p ≠ q) (he : ∀ j, j < n → R p j = R q j) : F R = 0 := by
  rcases Nat.lt_or_ge p q with hlt | hge
  · exact h.eqUp (q - p - 1) R p (by omega) (fun j hj => by rw [show p + 1 + (q - p - 1) = q by omega]; exact he j hj)
  · exact h.eqUp (p - q - 1) R q (by omega) (fun j hj => by rw [show q + 1 + (p - q - 1) = p by omega]; exact (he j hj).symm)
theorem Alt.swap (R : Nat → Vec) {p q : Nat} (hp : p < n) (hq : q < n) (hne : p ≠ q) : F (swp R p q) = - F R := by
  have := h.swapOf hp hq hne (fun S hS => h.eqRows hp hq hne hS) R (R p) (R q)
  rw [upd_id, upd_id] at this
  unfold swp
  rw [this]; grind
theorem Alt.addRow (R : Nat → Vec) {p q : Nat} (hp : p < n) (hq : q < n) (hne : p ≠ q) (k : K) : F (upd R p (fun j => R p j + k * R q j)) = F R := by
  rw [h.lin R p _ _ k hp, show upd R p (fun j => R p j) = R from upd_id R p, h.eqRows (R := upd R p (fun j => R q j)) hp hq hne (fun j _ => by rw [upd_same, upd_ne _ _ (fun e => hne e.symm)])]
  grind
/-- Multiples of row t are taken off the other rows. -/
theorem Alt.clear {T S : Nat → Vec} {t : Nat} (ht : t < n) (g : Nat → K) (hS : ∀ i, i < n → ∀ j, j < n → S i j = if i = t then T t j else T i j - g i * T t j) : F S = F T := by
  have key : ∀ q, q ≤ n → F (fun i j => if i ≠ t ∧ i < q then T i j - g i * T t j else T i j) = F T := by
    intro q
    induction q with
    | zero => intro _; exact congrArg F (funext fun i => funext fun j => by rw [if_neg (by omega)])
    | succ q ih =>
      intro hq
      rw [← ih (by omega)]
      by_cases e : q = t
      · refine congrArg F (funext fun i => funext fun j => ?_)
        by_cases c1 : i ≠ t ∧ i < q
        · rw [if_pos (by omega), if_pos c1]
        · rw [if_neg (by omega), if_neg c1]
      · rw [← h.addRow (fun i j => if i ≠ t ∧ i < q then T i j - g i * T t j else T i j) (p := q) (q := t) (by omega) ht e (- g q)]
        refine congrArg F (funext fun i => funext fun j => ?_)
        by_cases c1 : i = q
        · subst c1
          rw [upd_same, if_pos (by omega), if_neg (by omega), if_neg (by omega)]; grind
        · rw [upd_ne _ _ c1]
          by_cases c2 : i ≠ t ∧ i < q
          · rw [if_pos (by omega), if_pos c2]
          · rw [if_neg (by omega), if_neg c2]
  rw [← key n (Nat.le_refl _)]
  refine h.congr _ _ fun i hi j hj => ?_
  rw [hS i hi j hj]
  by_cases e : i = t
  · subst e; rw [if_pos rfl, if_neg (by omega)]
  · rw [if_neg e, if_pos ⟨e, hi⟩]
/-- The same with the exchange of rows p and t ahead of it. -/
theorem Alt.pswap (R : Nat → Vec) {p t : Nat} (hp : p < n) (ht : t < n) : F (fun i j => if i = t then R p j else if i = p then R t j else R i j) = (if p = t then 1 else -1) * F R := by
  by_cases e : p = t
  · subst e
    rw [if_pos rfl]
    rw [show (fun i j => if i = p then R p j else if i = p then R p j else R i j) = R from funext fun i => funext fun j => by
      by_cases c : i = p
      · rw [if_pos c, c]
      · rw [if_neg c, if_neg c]]
    grind
  · rw [if_neg e]
    rw [show (fun i j => if i = t then R p j else if i = p then R t j else R i j) = swp R p t from funext fun i => funext fun j => by
      unfold swp upd
      by_cases c : i = t
      · rw [if_pos c, if_pos c]
      · rw [if_neg c, if_neg c]
        by_cases c2 : i = p
        · rw [if_pos c2, if_pos c2]
        · rw [if_neg c2, if_neg c2]]
    rw [h.swap R hp ht e]; grind
/-- One column of the elimination. -/
theorem Alt.gstep {t k p : Nat} {R S : Nat → Vec} {c : K} (ht : t < n) (hp : p < n)
    (hS : ∀ i, i < n → ∀ j, S i j = if i = t then c * R p j else (if i = p then R t j else R i j) - (if i = p then R t k else R i k) * (c * R p j)) : F S = c * ((if p = t then 1 else -1) * F R) := by
  rw [← h.pswap R hp ht]
  have e := h.mulU (fun i j => if i = t then R p j else if i = p then R t j else R i j) ht (R p) c
  rw [show upd (fun i j => if i = t then R p j else if i = p then R t j else R i j) t (R p) = (fun i j => if i = t then R p j else if i = p then R t j else R i j) from funext fun i => funext fun j => by
    unfold upd
    by_cases c : i = t
    · rw [if_pos c, if_pos c]
    · rw [if_neg c]] at e
  rw [← e]
  refine h.clear ht (fun i => if i = p then R t k else R i k) fun i hi j hj => ?_
  rw [hS i hi j, upd_same]
  by_cases c : i = t
  · rw [if_pos c, if_pos c]
  · rw [if_neg c, if_neg c, upd_ne _ _ c]
    rw [if_neg c]
end

/-- Linear in each column. -/
theorem DK_colin : ∀ (n : Nat) (R : Nat → Vec) (q : Nat) (u v : Nat → K) (k : K), q < n →
    DK n (fun i j => if j = q then u i + k * v i else R i j) = DK n (fun i j => if j = q then u i else R i j) + k * DK n (fun i j => if j = q then v i else R i j) := by
  intro n
  induction n with
  | zero => intro R q u v k hq; omega
  | succ n ih =>
    intro R q u v k hq
    simp only [DK]
    rw [← sumN_mul, ← sumN_add]
    refine sumN_congr fun i hi => ?_
    by_cases e : q = 0
    · subst e
      have hm : ∀ w : Nat → K, minr i (fun i j => if j = 0 then w i else R i j) = minr i R := fun w => funext fun a => funext fun b => by
        show (if b + 1 = 0 then w (skp i a) else R (skp i a) (b + 1)) = R (skp i a) (b + 1)
        rw [if_neg (by omega)]
      rw [hm, hm, hm]
      simp only [if_true]
      grind
    · obtain ⟨q, rfl⟩ : ∃ r, q = r + 1 := ⟨q - 1, by omega⟩
      have hm : ∀ w : Nat → K, minr i (fun i j => if j = q + 1 then w i else R i j) = (fun a b => if b = q then w (skp i a) else minr i R a b) := fun w => funext fun a => funext fun b => by
        show (if b + 1 = q + 1 then w (skp i a) else R (skp i a) (b + 1)) = if b = q then w (skp i a) else R (skp i a) (b + 1)
        by_cases c : b = q
        · rw [if_pos (by omega), if_pos c]
        · rw [if_neg (by omega), if_neg c]
      rw [hm, hm, hm, if_neg (by omega), if_neg (by omega), if_neg (by omega)]
      rw [ih (minr i R) q (fun a => u (skp i a)) (fun a => v (skp i a)) k (by omega)]
      grind

theorem sumN_anti (T : Nat → Nat → K) (n : Nat) (hT : ∀ i a, i ≤ a → a < n → T (a + 1) i = - T i a) : sumN (n + 1) (fun i => sumN n (fun a => T i a)) = 0 := by
  induction n with
  | zero => simp only [sumN]; grind
  | succ n ih =>
    have h0 := ih (fun i a h1 h2 => hT i a h1 (by omega))
    have h1 : sumN (n + 1) (fun i => sumN (n + 1) (fun a => T i a)) = sumN (n + 1) (fun i => sumN n (fun a => T i a)) + sumN (n + 1) (fun i => T i n) := by
      rw [← sumN_add]
      exact sumN_congr fun i hi => by simp only [sumN]
    have h2 : sumN (n + 1) (fun a => T (n + 1) a) = - sumN (n + 1) (fun i => T i n) := by
      have : sumN (n + 1) (fun a => T (n + 1) a) = sumN (n + 1) (fun i => (-1) * T i n) := sumN_congr fun i hi => by rw [hT i n (by omega) (by omega)]; grind
      rw [this, sumN_mul]; grind
    rw [show sumN (n + 1 + 1) (fun i => sumN (n + 1) (fun a => T i a)) = sumN (n + 1) (fun i => sumN (n + 1) (fun a => T i a)) + sumN (n + 1) (fun a => T (n + 1) a) from rfl]
    rw [h1, h2, h0]; grind

theorem skp_skp {i a : Nat} (h : i ≤ a) (x : Nat) : skp (a + 1) (skp i x) = skp i (skp a x) := by
  unfold skp
  by_cases h1 : x < i <;> by_cases h2 : x < a
  · rw [if_pos h1, if_pos h2, if_pos (by omega), if_pos h1]
  · omega
  · rw [if_neg h1, if_pos h2, if_pos (by omega), if_neg h1]
  · rw [if_neg h1, if_neg h2, if_neg (by omega), if_neg (by omega)]
/-- Two columns beside each other that are the same. -/
theorem DK_coadj : ∀ (n : Nat) (R : Nat → Vec) (q : Nat), q + 1 < n → (∀ i, i < n → R i q = R i (q + 1)) → DK n R = 0 := by
  intro n
  induction n with
  | zero => intro R q hq; omega
  | succ n ih =>
    intro R q hq he
    by_cases e : q = 0
    · subst e
      obtain ⟨n, rfl⟩ : ∃ k, n = k + 1 := ⟨n - 1, by omega⟩
      have := sumN_anti (fun i a => sgn i * R i 0 * (sgn a * R (skp i a) 1 * DK n (minr a (minr i R)))) (n + 1) (fun i a h1 h2 => by
        have e1 : skp (a + 1) i = i := by unfold skp; rw [if_pos (by omega)]
        have e2 : skp i a = a + 1 := by unfold skp; rw [if_neg (by omega)]
        have e3 : minr i (minr (a + 1) R) = minr a (minr i R) := funext fun x => funext fun y => by
          show R (skp (a + 1) (skp i x)) (y + 1 + 1) = R (skp i (skp a x)) (y + 1 + 1)
          rw [skp_skp h1]
        show sgn (a + 1) * R (a + 1) 0 * (sgn i * R (skp (a + 1) i) 1 * DK n (minr i (minr (a + 1) R))) = - (sgn i * R i 0 * (sgn a * R (skp i a) 1 * DK n (minr a (minr i R))))
        rw [e1, e2, e3, sgn_succ, he (a + 1) (by omega), ← he i (by omega)]
        grind)
      rw [← this]
      show sumN (n + 1 + 1) (fun i => sgn i * R i 0 * DK (n + 1) (minr i R)) = _
      refine sumN_congr fun i hi => ?_
      show sgn i * R i 0 * DK (n + 1) (minr i R) = sumN (n + 1) (fun a => sgn i * R i 0 * (sgn a * R (skp i a) 1 * DK n (minr a (minr i R))))
      rw [sumN_mul]
      rfl
    · obtain ⟨q, rfl⟩ : ∃ r, q = r + 1 := ⟨q - 1, by omega⟩
      simp only [DK]
      refine sumN_zero fun i hi => ?_
      rw [ih (minr i R) q (by omega) (fun a ha => he _ (skp_lt ha))]
      grind

def trK (R : Nat → Vec) : Nat → Vec := fun i j => R j i
/-- The determinant of the transpose is alternating in the rows. -/
theorem DK_tr_alt (n : Nat) : Alt n (fun R => DK n (trK R)) := by
  have e : ∀ (R : Nat → Vec) (p : Nat) (u : Vec), trK (upd R p u) = (fun i j => if j = p then u i else trK R i j) := fun R p u => funext fun i => funext fun j => by
    unfold trK upd
    by_cases c : j = p
    · rw [if_pos c, if_pos c]
    · rw [if_neg c, if_neg c]
  refine ⟨fun R S h => DK_congr n _ _ fun i hi j hj => h j hj i hi, fun R p u v k hp => ?_, fun R p hp he => DK_coadj n _ p hp fun i hi => he i hi⟩
  show DK n (trK (upd R p (fun j => u j + k * v j))) = DK n (trK (upd R p u)) + k * DK n (trK (upd R p v))
  rw [e, e, e]
  exact DK_colin n (trK R) p u v k hp

def unK : Nat → Vec := fun i j => if i = j then 1 else 0
theorem DK_first {n : Nat} {R : Nat → Vec} (h : ∀ i, 0 < i → i < n + 1 → R i 0 = 0) : DK (n + 1) R = R 0 0 * DK n (fun a b => R (a + 1) (b + 1)) := by
  simp only [DK]
  rw [sumN_one (k := 0) (by omega) (fun i hi hne => by rw [h i (by omega) hi]; grind)]
  rw [sgn_zero, show minr 0 R = (fun a b => R (a + 1) (b + 1)) from funext fun a => funext fun b => by unfold minr skp; rw [if_neg (by omega)]]
  grind
theorem DK_un : ∀ n, DK n unK = 1 := by
  intro n
  induction n with
  | zero => rfl
  | succ n ih =>
    rw [DK_first (fun i h0 _ => by unfold unK; rw [if_neg (by omega)])]
    rw [DK_congr n _ unK (fun i _ j _ => by unfold unK; by_cases e : i = j <;> simp [e])]
    rw [ih]
    unfold unK
    rw [if_pos rfl]; grind
theorem trK_un : trK unK = unK := funext fun i => funext fun j => by unfold trK unK; by_cases e : i = j <;> simp [e, eq_comm]

/-- The product of two square matrices. -/
def mmK (n : Nat) (A B : Nat → Vec) : Nat → Vec := fun i j => sumN n (fun k => A i k * B k j)
theorem mm_alt (n : Nat) (B : Nat → Vec) : Alt n (fun A => DK n (mmK n A B)) := by
  have e : ∀ (R : Nat → Vec) (p : Nat) (u : Vec), mmK n (upd R p u) B = upd (mmK n R B) p (fun j => sumN n (fun k => u k * B k j)) := fun R p u => funext fun i => funext fun j => by
    unfold mmK upd
    by_cases c : i = p
    · rw [if_pos c, if_pos c]
    · rw [if_neg c, if_neg c]
  refine ⟨fun R S h => DK_congr n _ _ fun i hi j hj => sumN_congr fun k hk => by rw [h i hi k hk], fun R p u v k hp => ?_, fun R p hp he => DK_adj n _ p hp fun j hj => sumN_congr fun k hk => by rw [he k hk]⟩
  show DK n (mmK n (upd R p (fun j => u j + k * v j)) B) = DK n (mmK n (upd R p u) B) + k * DK n (mmK n (upd R p v) B)
  rw [e, e, e, ← DK_lin n (mmK n R B) p _ _ k hp]
  refine congrArg (DK n) (congrArg (upd (mmK n R B) p) (funext fun j => ?_))
  rw [← sumN_mul, ← sumN_add]
  exact sumN_congr fun i hi => by grind
theorem mmK_un (n : Nat) (B : Nat → Vec) {i : Nat} (hi : i < n) (j : Nat) : mmK n unK B i j = B i j := by
  unfold mmK
  rw [sumN_one hi (fun k hk hne => by unfold unK; rw [if_neg (fun e => hne e.symm)]; grind)]
  unfold unK
  rw [if_pos rfl]; grind

end Go.Proofs.Ytninamlcffemoaa
