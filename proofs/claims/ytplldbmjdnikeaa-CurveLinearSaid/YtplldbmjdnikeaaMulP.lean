/- Multiples of a point, sums of multiples: plain Lean, and what the ladder stands for. -/
import Derived.Test.YtplldbmjdnikeaaCurveJ
namespace Go.Proofs.Ytplldbmjdnikeaa
set_option linter.unusedVariables false
set_option linter.unusedSimpArgs false
open Go.RowKit

theorem lmz (k : Nat) : ((lm 0 k : Nat) : Int) = 0 := by rw [lm_zero]; rfl
/-- A number of times a point. -/
noncomputable def mulP : Nat → Pc → Pc
  | 0, _ => .inf
  | n + 1, P => addP (mulP n P) P
theorem inf_on : (Pt.inf : Pc).on 7 := trivial
theorem mulP_on {P : Pc} (hP : P.on 7) : ∀ n, (mulP n P).on 7
  | 0 => inf_on
  | n + 1 => curve_on (mulP_on hP n) hP
theorem mulP_one (P : Pc) : mulP 1 P = P := inf_add P
theorem mulP_add {P : Pc} (hP : P.on 7) (m : Nat) : ∀ n, mulP (m + n) P = addP (mulP m P) (mulP n P)
  | 0 => (add_inf _).symm
  | n + 1 => by
    show addP (mulP (m + n) P) P = addP (mulP m P) (addP (mulP n P) P)
    rw [mulP_add hP m n, curve_assoc (mulP_on hP m) (mulP_on hP n) hP]
theorem mulP_mul {P : Pc} (hP : P.on 7) (n : Nat) : ∀ m, mulP (m * n) P = mulP m (mulP n P)
  | 0 => by rw [Nat.zero_mul]; rfl
  | m + 1 => by
    rw [Nat.succ_mul, mulP_add hP, mulP_mul hP n m]
    rfl
theorem mulP_inf : ∀ n, mulP n .inf = .inf
  | 0 => rfl
  | n + 1 => by
    show addP (mulP n .inf) .inf = .inf
    rw [mulP_inf n]; rfl
theorem add_mid {A B C D : Pc} (hA : A.on 7) (hB : B.on 7) (hC : C.on 7) (hD : D.on 7) : addP (addP A B) (addP C D) = addP (addP A C) (addP B D) := by
  rw [curve_assoc hA hB (curve_on hC hD), curve_assoc hA hC (curve_on hB hD), ← curve_assoc hB hC hD, ← curve_assoc hC hB hD, curve_comm hB hC]
theorem mulP_addP {P Q : Pc} (hP : P.on 7) (hQ : Q.on 7) : ∀ n, mulP n (addP P Q) = addP (mulP n P) (mulP n Q)
  | 0 => rfl
  | n + 1 => by
    show addP (mulP n (addP P Q)) (addP P Q) = addP (addP (mulP n P) P) (addP (mulP n Q) Q)
    rw [mulP_addP hP hQ n, add_mid (mulP_on hP n) (mulP_on hQ n) hP hQ]
theorem mulP_neg {P : Pc} (hP : P.on 7) : ∀ n, mulP n P.neg = (mulP n P).neg
  | 0 => rfl
  | n + 1 => by
    show addP (mulP n P.neg) P.neg = (addP (mulP n P) P).neg
    rw [mulP_neg hP n, neg_add inv_PP two_PP (mulP_on hP n) hP]

/-- The sum of the first so many multiples. -/
noncomputable def sumF (f : Nat → Nat) (P : Nat → Pc) : Nat → Pc
  | 0 => .inf
  | n + 1 => addP (sumF f P n) (mulP (f n) (P n))
theorem sumF_on {f : Nat → Nat} {P : Nat → Pc} : ∀ {n}, (∀ i, i < n → (P i).on 7) → (sumF f P n).on 7
  | 0, _ => inf_on
  | n + 1, h => curve_on (sumF_on fun i hi => h i (by omega)) (mulP_on (h n (by omega)) _)
theorem sumF_add {f g : Nat → Nat} {P : Nat → Pc} : ∀ {n}, (∀ i, i < n → (P i).on 7) → sumF (fun i => f i + g i) P n = addP (sumF f P n) (sumF g P n)
  | 0, _ => rfl
  | n + 1, h => by
    have h' : ∀ i, i < n → (P i).on 7 := fun i hi => h i (by omega)
    show addP (sumF (fun i => f i + g i) P n) (mulP (f n + g n) (P n)) = addP (addP (sumF f P n) (mulP (f n) (P n))) (addP (sumF g P n) (mulP (g n) (P n)))
    rw [sumF_add h', mulP_add (h n (by omega)), add_mid (sumF_on h') (sumF_on h') (mulP_on (h n (by omega)) _) (mulP_on (h n (by omega)) _)]
theorem sumF_congr {f g : Nat → Nat} {P Q : Nat → Pc} : ∀ {n}, (∀ i, i < n → f i = g i ∧ P i = Q i) → sumF f P n = sumF g Q n
  | 0, _ => rfl
  | n + 1, h => by
    show addP (sumF f P n) (mulP (f n) (P n)) = addP (sumF g Q n) (mulP (g n) (Q n))
    rw [sumF_congr fun i hi => h i (by omega), (h n (by omega)).1, (h n (by omega)).2]
theorem sumF_zero {P : Nat → Pc} : ∀ n, sumF (fun _ => 0) P n = .inf
  | 0 => rfl
  | n + 1 => by
    show addP (sumF (fun _ => 0) P n) .inf = .inf
    rw [sumF_zero n]; rfl

theorem bit_step (k i : Nat) : k / 2 ^ (i + 1) + k / 2 ^ (i + 1) + k / 2 ^ i % 2 = k / 2 ^ i := by
  have h : k / 2 ^ (i + 1) = k / 2 ^ i / 2 := by rw [Nat.div_div_eq_div_mul, Nat.pow_succ]
  omega

/-- The points that a list stands for. -/
def jls (P : Nat → Pc) (n : Nat) : List J := (List.range n).map fun i => jrep (P i)
theorem jls_len (P : Nat → Pc) (n : Nat) : (jls P n).length = n := by simp [jls]
theorem jls_at (P : Nat → Pc) {n i : Nat} (h : i < n) : (jls P n).getD i ⟨0, 0, 0⟩ = jrep (P i) := by
  simp [jls, List.getD_eq_getElem?_getD, h]
theorem rep_jin {ks : List Nat} {P : Nat → Pc} {n : Nat} (hP : ∀ i, i < n → (P i).on 7) {i : Nat} {o : J} {S : Pc} (hS : S.on 7) (ho : Rep o S) :
    ∀ t, t ≤ n → Rep (jin ks (jls P n) i o t) (addP (addP S S) (sumF (fun j => ks.getD j 0 / 2 ^ i % 2) P t))
  | 0, _ => by
    show Rep (jtw o) (addP (addP S S) .inf)
    rw [add_inf]
    exact rep_tw hS ho
  | t + 1, ht => by
    have ih := rep_jin (ks := ks) (i := i) hP hS ho t (by omega)
    have hs : (sumF (fun j => ks.getD j 0 / 2 ^ i % 2) P t).on 7 := sumF_on fun i hi => hP i (by omega)
    have hPt := hP t (by omega)
    have hSS := curve_on hS hS
    obtain ⟨b, hb⟩ : ∃ b, ks.getD t 0 / 2 ^ i % 2 = b := ⟨_, rfl⟩
    show Rep (if ks.getD t 0 / 2 ^ i % 2 = 1 then jpl (jin ks (jls P n) i o t) ((jls P n).getD t ⟨0, 0, 0⟩) else jin ks (jls P n) i o t) (addP (addP S S) (addP (sumF (fun j => ks.getD j 0 / 2 ^ i % 2) P t) (mulP (ks.getD t 0 / 2 ^ i % 2) (P t))))
    rw [hb]
    have hb1 : b = 0 ∨ b = 1 := by omega
    rcases hb1 with rfl | rfl
    · rw [if_neg (by decide)]
      show Rep _ (addP (addP S S) (addP _ .inf))
      rw [add_inf]
      exact ih
    · rw [if_pos rfl, mulP_one, jls_at P (by omega), ← curve_assoc hSS hs hPt]
      exact rep_pl (curve_on hSS hs) hPt ih (rep_jrep _)
theorem rep_jlad {ks : List Nat} {P : Nat → Pc} {n : Nat} (hn : ks.length = n) (hk : ∀ i, i < n → ks.getD i 0 < B6 ^ 4) (hP : ∀ i, i < n → (P i).on 7) :
    ∀ m, m ≤ 256 → Rep (jlad ks (jls P n) m) (sumF (fun j => ks.getD j 0 / 2 ^ (256 - m)) P n)
  | 0, _ => by
    have : sumF (fun j => ks.getD j 0 / 2 ^ (256 - 0)) P n = sumF (fun _ => 0) P n := sumF_congr fun i hi => ⟨Nat.div_eq_of_lt (hk i hi), rfl⟩
    rw [this, sumF_zero]
    exact rep_zero
  | m + 1, hm => by
    have ih := rep_jlad hn hk hP m (by omega)
    have h := rep_jin (ks := ks) hP (i := 255 - m) (sumF_on hP) ih n (Nat.le_refl _)
    show Rep (jin ks (jls P n) (255 - m) (jlad ks (jls P n) m) ks.length) _
    rw [hn]
    rw [← sumF_add hP, ← sumF_add hP] at h
    have e : sumF (fun j => ks.getD j 0 / 2 ^ (256 - (m + 1))) P n = sumF (fun i => ks.getD i 0 / 2 ^ (256 - m) + ks.getD i 0 / 2 ^ (256 - m) + ks.getD i 0 / 2 ^ (255 - m) % 2) P n := sumF_congr fun i hi => ⟨by
      have := bit_step (ks.getD i 0) (255 - m)
      rw [show 255 - m + 1 = 256 - m by omega] at this
      rw [this, show 256 - (m + 1) = 255 - m by omega], rfl⟩
    rw [e]
    exact h
theorem lad_out {ks : List Nat} {P : Nat → Pc} {n : Nat} (hn : ks.length = n) (hk : ∀ i, i < n → ks.getD i 0 < B6 ^ 4) (hP : ∀ i, i < n → (P i).on 7) :
    jout (jlad ks (jls P n) 256) = ofP (sumF (fun j => ks.getD j 0) P n) := by
  have h := rep_jlad hn hk hP 256 (Nat.le_refl _)
  rw [rep_out h]
  exact congrArg ofP (sumF_congr fun i hi => ⟨by rw [Nat.sub_self, Nat.pow_zero, Nat.div_one], rfl⟩)

/-- What is wrong with one of many. -/
inductive ErrOf (k : Nat) (p : Pd) (P : Pc) : Nat → Prop
  | range (h : ¬ k < QQ) (hk : k < B6 ^ 4) : ErrOf k p P 20
  | curve (h : k < QQ) (hb : Bad p) : ErrOf k p P 30
  | fine (h : k < QQ) (hP : P.on 7) (hp : p = ofP P) : ErrOf k p P 0
theorem ErrOf.ok {k : Nat} {p : Pd} {P : Pc} (h : ErrOf k p P 0) : k < QQ ∧ P.on 7 ∧ p = ofP P := by
  cases h with
  | fine h hP hp => exact ⟨h, hP, hp⟩
/-- The first that is wrong. -/
def firstE (es : Nat → Nat) : Nat → Nat
  | 0 => 0
  | n + 1 => if firstE es n = 0 then es n else firstE es n
theorem firstE_zero {es : Nat → Nat} : ∀ {n}, firstE es n = 0 → ∀ i, i < n → es i = 0
  | 0, _, i, hi => absurd hi (by omega)
  | n + 1, h, i, hi => by
    have hn : firstE es n = 0 := Classical.byContradiction fun hne => hne (by
      have : firstE es (n + 1) = firstE es n := if_neg hne
      rwa [← this])
    have he : firstE es (n + 1) = es n := if_pos hn
    by_cases hin : i = n
    · rw [hin, ← he]; exact h
    · exact firstE_zero hn i (by omega)
theorem firstE_keep {es : Nat → Nat} {m : Nat} (hm : firstE es m ≠ 0) : ∀ d, firstE es (m + d) = firstE es m
  | 0 => rfl
  | d + 1 => by
    have ih := firstE_keep hm d
    show (if firstE es (m + d) = 0 then es (m + d) else firstE es (m + d)) = firstE es m
    rw [ih, if_neg hm]
theorem firstE_at {es : Nat → Nat} {m n : Nat} (h0 : firstE es m = 0) (he : es m ≠ 0) (hm : m < n) : firstE es n = es m := by
  have h1 : firstE es (m + 1) = es m := if_pos h0
  obtain ⟨d, rfl⟩ : ∃ d, n = m + 1 + d := ⟨n - (m + 1), by omega⟩
  rw [firstE_keep (by rw [h1]; exact he), h1]
theorem firstE_next {es : Nat → Nat} {m : Nat} (h0 : firstE es m = 0) (he : es m = 0) : firstE es (m + 1) = 0 := (if_pos h0).trans he
/-- The point of many. -/
noncomputable def manyV (es : Nat → Nat) (ks : List Nat) (P : Nat → Pc) (n : Nat) : Pd := if firstE es n = 0 then ofP (sumF (fun j => ks.getD j 0) P n) else ⟨0, 0, false⟩

end Go.Proofs.Ytplldbmjdnikeaa
