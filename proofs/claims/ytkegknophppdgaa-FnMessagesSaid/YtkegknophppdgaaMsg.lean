/- The generations of a message, plain: what FnMessages says. -/
import Derived.Test.YtkegknophppdgaaSpl
import Derived.Test.YtkegknophppdgaaJon
import Derived.Test.YtkegknophppdgaaDsy
namespace Go.Proofs.Ytkegknophppdgaa
open Go.RowKit
set_option linter.unusedVariables false
set_option maxRecDepth 20000

theorem splTo_get {l : List (List Int)} {s : Nat} {f : Int} {j t : Nat} (h : t < j) : (splTo l s f j)[t]? = some (f + (t : Int), (l.drop (t * s)).take s) := by
  unfold splTo
  rw [List.getElem?_map, List.getElem?_range h]
  rfl
theorem splTo_flat (l : List (List Int)) (s : Nat) (f : Int) (j : Nat) : ∀ k, k ≤ j → jflat (splTo l s f j) k = l.take (k * s)
  | 0, _ => by simp [jflat]
  | k + 1, h => by
    rw [jflat_succ (splTo_get (show k < j by omega)), splTo_flat l s f j k (by omega), Nat.succ_mul, List.take_add]

theorem AllB.encB {ds : List Int} (h : AllB ds) : AllB (encBytes [] ds) := by
  have e : encBytes [] ds = uv ds.length ++ ds := by simp [encBytes]
  rw [e]
  exact (uv_bytes _).append h
theorem symRow_bytes {m : Nat} {bs : List Int} {f : Nat} (h : AllB bs) : AllB (symRow m bs f) := by
  intro x hx
  unfold symRow padTo at hx
  rcases List.mem_append.1 hx with hx | hx
  · exact h x (List.mem_of_mem_drop (List.mem_of_mem_take hx))
  · rw [(List.mem_replicate.1 hx).2]
    omega
theorem syms_valid {ds : List Int} {m : Nat} (hb : AllB ds) (hl : ds.length ≤ 400) (hm : 1 ≤ m ∧ m ≤ 16) : VR m (syms ds m) := by
  intro xs hx
  have h3 := (syms_small hm hl).2.2 xs hx
  refine ⟨validV_true.2 ⟨?_, by omega⟩, h3⟩
  rw [syms_yes (inR_true.2 (by omega)) hl] at hx
  unfold symTo at hx
  obtain ⟨i, _, rfl⟩ := List.mem_map.1 hx
  intro x hx
  have := symRow_bytes hb.encB x hx
  exact inR_true.2 (by omega)
theorem VR_cols {m : Nat} {l : List (List Int)} (h : VR m l) (h0 : 0 < l.length) : cols l = m := by
  cases l with
  | nil => simp at h0
  | cons x r => exact (h x (by simp)).2
theorem chunk_valid {l : List (List Int)} {m s t : Nat} (hv : VR m l) (hm : 1 ≤ m ∧ m ≤ 16) (hs : 1 ≤ s ∧ s ≤ 8) (ht : t * s < l.length) {n : Int} (hn : 0 ≤ n ∧ n ≤ 1000000000000) :
    validG n ((l.drop (t * s)).take s) = true ∧ cols ((l.drop (t * s)).take s) = m ∧ ((l.drop (t * s)).take s).length ≤ 8 ∧ (∀ xs ∈ (l.drop (t * s)).take s, xs.length ≤ 16) ∧ ((t + 1) * s < l.length → ((l.drop (t * s)).take s).length = s) := by
  have hV : VR m ((l.drop (t * s)).take s) := fun xs hx => hv xs (List.mem_of_mem_drop (List.mem_of_mem_take hx))
  have hl : ((l.drop (t * s)).take s).length = min s (l.length - t * s) := by simp
  have hc := VR_cols hV (by omega)
  refine ⟨?_, hc, by omega, fun xs hx => by have := (hV xs hx).2; omega, fun h => by rw [Nat.succ_mul] at h; omega⟩
  unfold validG
  rw [Bool.and_eq_true, Bool.and_eq_true, Bool.and_eq_true]
  refine ⟨inR_true.2 hn, inR_true.2 (by omega), vrows_true.2 (by rw [hc]; exact hV), ?_⟩
  rw [hc]
  exact inR_true.2 (by omega)

theorem flat_len_of {m : Nat} : ∀ {l : List (List Int)}, (∀ xs ∈ l, xs.length = m) → l.flatten.length = l.length * m
  | [], _ => by simp
  | x :: r, h => by
    rw [List.flatten_cons, List.length_append, flat_len_of (fun y hy => h y (by simp [hy])), h x (by simp), List.length_cons, Nat.succ_mul]
    omega
theorem symN_lt {s n t : Nat} (hs : 0 < s) : t < symN s n ↔ t * s < n := by
  unfold symN
  rw [← Nat.succ_le_iff, Nat.le_div_iff_mul_le hs, Nat.succ_mul]
  omega
theorem jokTo_all {gs : List Gn} (h : ∀ (t : Nat) (g : Gn), gs[t]? = some g → validG g.1 g.2 = true) (hf : ∀ (t : Nat) (g g' : Gn), gs[t]? = some g → gs[t + 1]? = some g' → g'.1 = g.1 + 1) : ∀ k, k ≤ gs.length → jokTo gs k = true
  | 0, _ => rfl
  | k + 1, hk => by
    have h1 : gs[k]? = some (gs[k]'(by omega)) := List.getElem?_eq_getElem _
    refine jok_yes (n := (gs[k]'(by omega)).1) (xss := (gs[k]'(by omega)).2) h1 (jokTo_all h hf k (by omega)) (h k _ h1) ?_
    rcases Nat.eq_zero_or_pos k with e | e
    · exact .inl e
    · obtain ⟨j, rfl⟩ : ∃ j, k = j + 1 := ⟨k - 1, by omega⟩
      have h2 : gs[j]? = some (gs[j]'(by omega)) := List.getElem?_eq_getElem _
      exact .inr ⟨(gs[j]'(by omega)).1, (gs[j]'(by omega)).2, h2, hf j _ _ h2 h1⟩
theorem sumG_small {gs : List Gn} (h : ∀ g ∈ gs, g.2.length ≤ 8 ∧ ∀ xs ∈ g.2, xs.length ≤ 16) : sumG gs ≤ 136 * gs.length := by
  induction gs with
  | nil => simp [sumG]
  | cons g r ih =>
    have h1 := h g (by simp)
    have h2 := tot_le h1.2
    have h3 := ih fun g hg => h g (by simp [hg])
    simp only [sumG, List.length_cons]
    omega

/-- What the law says of the generations G of the message zs. -/
structure MsgG (zs : List Int) (m s f : Int) (G : List Gn) : Prop where
  hm : 1 ≤ m ∧ m ≤ 16
  hs : 1 ≤ s ∧ s ≤ 8
  hf : 0 ≤ f ∧ f ≤ 999999999590
  pos : 0 < G.length
  len : G.length ≤ 407
  small : ∀ g ∈ G, g.2.length ≤ 8 ∧ ∀ xs ∈ g.2, xs.length ≤ 16
  ok : joinOk G = true
  d : joinD G = zs
  at_ : ∀ (t : Nat) (n : Int) (xss : List (List Int)), G[t]? = some (n, xss) → n = f + (t : Int) ∧ validG n xss = true ∧ (cols xss : Int) = m ∧ (t + 1 < G.length → (xss.length : Int) = s)
  two : G.length = 2 → (zs.length : Int) < 2 * m * s
  gap : 3 ≤ G.length → joinOk (G.take 1 ++ G.drop 2) = false

theorem msgG {zs : List Int} {m s f : Int} (hb : AllB zs) (hne : splG zs m s f ≠ []) : MsgG zs m s f (splG zs m s f) := by
  unfold splG at hne ⊢
  by_cases hc : (inR s 1 8 && inR f 0 999999999590) = true
  rotate_left
  · rw [if_neg hc] at hne
    exact absurd rfl hne
  rw [if_pos hc] at hne ⊢
  rw [Bool.and_eq_true] at hc
  have hs := inR_true.1 hc.1
  have hf := inR_true.1 hc.2
  obtain ⟨S, rfl⟩ := Int.eq_ofNat_of_zero_le (show 0 ≤ s by omega)
  rw [Int.toNat_natCast] at hne ⊢
  by_cases hin : inR m 1 16 = true ∧ zs.length ≤ 400
  rotate_left
  · exfalso
    apply hne
    rw [syms_no (by
      by_cases c1 : inR m 1 16 = true
      · exact .inr fun h => hin ⟨c1, h⟩
      · exact .inl (by simpa using c1))]
    have : symN S ([] : List (List Int)).length = 0 := by
      unfold symN
      simp only [List.length_nil]
      exact Nat.div_eq_of_lt (by omega)
    rw [this]
    rfl
  obtain ⟨hm, hz⟩ := hin
  have hm1 := inR_true.1 hm
  obtain ⟨M, rfl⟩ := Int.eq_ofNat_of_zero_le (show 0 ≤ m by omega)
  have hu : unsym (syms zs (M : Int)) = some zs := by
    obtain ⟨z, f1, f2, f3, f4⟩ := syms_flat (ds := zs) hm hz
    exact unsym_some hb hz (by rw [f4]; exact hm) (by rw [f4])
  obtain ⟨s1, s2, s3⟩ := syms_small (ds := zs) (m := M) (by omega) hz
  have hV := syms_valid (m := M) hb hz (by omega)
  obtain ⟨zz, f1, f2, f3, f4⟩ := syms_flat (ds := zs) hm hz
  have hlen := syms_len zs M
  have hul : 1 ≤ (uv (zs.length : Int)).length := by
    rw [uv_in (inR_true.2 (by omega))]
    unfold uvF
    split <;> simp
  have htot : (syms zs (M : Int)).flatten.length = (syms zs (M : Int)).length * M := flat_len_of s3
  rw [f1] at htot
  simp only [List.length_append] at htot
  generalize hl : syms zs (M : Int) = l at *
  generalize hN : symN S l.length = N at *
  have hlt : ∀ t, t < N ↔ t * S < l.length := fun t => by rw [← hN]; exact symN_lt (by omega)
  have hNl : N ≤ l.length := by rw [← hN]; exact symN_le (by omega)
  have hNs : l.length ≤ N * S := by
    have := (not_congr (hlt N)).1 (by omega)
    omega
  have hlG : (splTo l S f N).length = N := splTo_length _ _ _ _
  have hget : ∀ t n xss, (splTo l S f N)[t]? = some (n, xss) → t < N ∧ n = f + t ∧ xss = (l.drop (t * S)).take S := fun t n xss h => by
    have ht := (List.getElem?_eq_some_iff.1 h).1
    rw [hlG] at ht
    rw [splTo_get ht] at h
    injection h with h
    injection h with h1 h2
    exact ⟨ht, h1.symm, h2.symm⟩
  have hNpos : 0 < N := (hlt 0).2 (by omega)
  have hval : ∀ t n xss, (splTo l S f N)[t]? = some (n, xss) → validG n xss = true ∧ cols xss = M ∧ xss.length ≤ 8 ∧ (∀ xs ∈ xss, xs.length ≤ 16) ∧ ((t + 1) * S < l.length → xss.length = S) := fun t n xss h => by
    obtain ⟨h1, rfl, rfl⟩ := hget t n xss h
    exact chunk_valid hV (by omega) (by omega) ((hlt t).1 h1) (by omega)
  have hjok : jok (splTo l S f N) = true := by
    refine jokTo_all (fun t g h => (hval t g.1 g.2 h).1) (fun t g g' h h' => ?_) _ (Nat.le_refl _)
    have e1 := (hget t g.1 g.2 h).2.1
    have e2 := (hget (t + 1) g'.1 g'.2 h').2.1
    omega
  have hjf : jflat (splTo l S f N) (splTo l S f N).length = l := by
    rw [hlG, splTo_flat _ _ _ _ _ (Nat.le_refl _), List.take_of_length_le hNs]
  refine ⟨by omega, by omega, hf, by omega, by omega, fun g hg => ?_, ?_, ?_, fun t n xss h => ?_, fun h => ?_, fun h => ?_⟩
  · obtain ⟨t, ht, rfl⟩ := List.mem_iff_getElem.1 hg
    have := hval t _ _ (List.getElem?_eq_getElem ht)
    exact ⟨this.2.2.1, this.2.2.2.1⟩
  · unfold joinOk
    rw [hjok, if_pos rfl, hjf]
    exact (us_some hu).2
  · unfold joinD
    rw [hjok, if_pos rfl, hjf]
    exact (us_some hu).1
  · obtain ⟨q1, q2, q3, q4, q5⟩ := hval t n xss h
    obtain ⟨p1, p2, p3⟩ := hget t n xss h
    exact ⟨p2, q1, by omega, fun h => by have := q5 ((hlt (t + 1)).1 (by omega)); omega⟩
  · rw [hlG] at h
    rw [h] at hNs
    have h9 : zs.length < 2 * M * S := by
      have h8 : l.length * M ≤ 2 * S * M := Nat.mul_le_mul_right _ hNs
      rw [show 2 * S * M = 2 * M * S by rw [Nat.mul_assoc, Nat.mul_comm S M, ← Nat.mul_assoc]] at h8
      omega
    exact_mod_cast h9
  · rw [hlG] at h
    have g0 : (splTo l S f N)[0]? = _ := splTo_get (show 0 < N by omega)
    have g2 : (splTo l S f N)[2]? = _ := splTo_get (show 2 < N by omega)
    refine (join_gap (k := 0) (n := f + ((2 : Nat) : Int)) (n0 := f + ((0 : Nat) : Int)) (xss := List.take S (List.drop (2 * S) l)) (xss0 := List.take S (List.drop (0 * S) l)) ?_ ?_ (by omega)).2
    · rw [List.getElem?_append_right (by rw [List.length_take]; omega), List.length_take, hlG, show min 1 N = 1 by omega, List.getElem?_drop]
      exact g2
    · rw [List.getElem?_append_left (by rw [List.length_take, hlG]; omega), List.getElem?_take_of_lt (by omega)]
      exact g0

end Go.Proofs.Ytkegknophppdgaa
