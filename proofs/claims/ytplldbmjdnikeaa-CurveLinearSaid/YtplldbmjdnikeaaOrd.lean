/- The number of the curve's points: QQ times any of them is the point at infinity. Plain Lean. -/
import Derived.Test.YtplldbmjdnikeaaMulP
import Derived.Test.YtplldbmjdnikeaaGr
import Derived.Test.YtplldbmjdnikeaaRe4
namespace Go.Proofs.Ytplldbmjdnikeaa
set_option linter.unusedVariables false
set_option linter.unusedSimpArgs false

theorem pigeon : ∀ (M N : Nat) (f : Nat → Nat), (∀ i, i < N → f i < M) → (∀ i j, i < N → j < N → f i = f j → i = j) → N ≤ M
  | 0, N, f, h, _ => by
    by_cases hN : N = 0
    · omega
    · exact absurd (h 0 (by omega)) (by omega)
  | M + 1, N, f, h, hi => by
    by_cases hx : ∃ i, i < N ∧ f i = M
    · obtain ⟨i0, h0, e0⟩ := hx
      have := pigeon M (N - 1) (fun i => if i = i0 then f (N - 1) else f i) (fun i hl => by
        show (if i = i0 then f (N - 1) else f i) < M
        by_cases hii : i = i0
        · rw [if_pos hii]
          have h1 := h (N - 1) (by omega)
          have h2 : f (N - 1) ≠ M := fun e => by
            have := hi (N - 1) i0 (by omega) h0 (by rw [e, e0])
            omega
          omega
        · rw [if_neg hii]
          have h1 := h i (by omega)
          have h2 : f i ≠ M := fun e => hii (hi i i0 (by omega) h0 (by rw [e, e0]))
          omega) (fun i j hl hk e => by
        have e : (if i = i0 then f (N - 1) else f i) = (if j = i0 then f (N - 1) else f j) := e
        by_cases hii : i = i0
        · by_cases hjj : j = i0
          · omega
          · rw [if_pos hii, if_neg hjj] at e
            have := hi (N - 1) j (by omega) (by omega) e
            omega
        · by_cases hjj : j = i0
          · rw [if_neg hii, if_pos hjj] at e
            have := hi i (N - 1) (by omega) (by omega) e
            omega
          · rw [if_neg hii, if_neg hjj] at e
            exact hi i j (by omega) (by omega) e)
      omega
    · have := pigeon M N f (fun i hl => by
        have h1 := h i hl
        have h2 : f i ≠ M := fun e => hx ⟨i, hl, e⟩
        omega) hi
      omega

/-- A point as a number. -/
def code : Pc → Nat
  | .inf => 0
  | .aff x y => 1 + 2 * x.val + y.val % 2
theorem code_lt (P : Pc) : code P < 2 * PP + 1 := by
  cases P with
  | inf => show 0 < 2 * PP + 1; omega
  | aff x y =>
    show 1 + 2 * x.val + y.val % 2 < 2 * PP + 1
    have := x.isLt
    omega
theorem neg_par {y z : Fin PP} (h : y = -z) (hp : y.val % 2 = z.val % 2) : y = z := by
  have hv : y.val = (PP - z.val) % PP := by rw [h, Fin.neg_def]
  have hz := z.isLt
  by_cases h0 : z.val = 0
  · rw [h0, Nat.sub_zero, Nat.mod_self] at hv
    exact Fin.ext (by rw [hv, h0])
  · rw [Nat.mod_eq_of_lt (by omega)] at hv
    have hodd : PP % 2 = 1 := by decide +kernel
    omega
theorem code_inj {P Q : Pc} (hP : P.on 7) (hQ : Q.on 7) (h : code P = code Q) : P = Q := by
  cases P with
  | inf =>
    cases Q with
    | inf => rfl
    | aff x y =>
      have h : 0 = 1 + 2 * x.val + y.val % 2 := h
      omega
  | aff x y =>
    cases Q with
    | inf =>
      have h : 1 + 2 * x.val + y.val % 2 = 0 := h
      omega
    | aff x' y' =>
      have h : 1 + 2 * x.val + y.val % 2 = 1 + 2 * x'.val + y'.val % 2 := h
      have ex : x = x' := Fin.ext (by omega)
      have ep : y.val % 2 = y'.val % 2 := by omega
      rcases Lin.of_on inv_PP two_PP hP hQ with ⟨_, h2⟩ | ⟨m, h2⟩
      · rw [ex, neg_par h2 ep]
      · rcases h2 with ⟨h3, _⟩ | ⟨_, h3, _⟩
        · exact absurd ex h3
        · rw [ex, h3]
theorem no_two {T : Pc} (hT : T.on 7) (h : addP T T = .inf) : T = .inf := by
  cases T with
  | inf => rfl
  | aff x y =>
    rcases Lin.of_on inv_PP two_PP hT hT with ⟨_, h2⟩ | ⟨m, h2⟩
    · have hy := self_neg h2
      have hT : y * y = x * x * x + 7 := hT
      rw [hy, zero_mul'] at hT
      have hv : (x * x * x + 7).val = 0 := by rw [← hT]; rfl
      have h7 : ((7 : Fin PP).val) = 7 := by decide +kernel
      rw [Fin.val_add, h7, Fin.val_mul, Fin.val_mul, Nat.mod_mul_mod] at hv
      refine absurd ?_ (no_cube x.val)
      have hl : x.val * x.val * x.val % PP < PP := Nat.mod_lt _ (by decide)
      have hP7 : 7 < PP := by decide
      generalize x.val * x.val * x.val % PP = c at *
      by_cases hc : c + 7 < PP
      · rw [Nat.mod_eq_of_lt hc] at hv; omega
      · rw [Nat.mod_eq_sub_mod (by omega), Nat.mod_eq_of_lt (by omega)] at hv
        omega
    · rw [add_lin inv_PP two_PP h2] at h
      cases h

/-- Force a number ahead of what is made of it. -/
def forceN {α : Type} (n : Nat) (F : Nat → α) : α := Nat.rec (F 0) (fun k _ => F (k + 1)) n
theorem forceN_eq {α : Type} (n : Nat) (F : Nat → α) : forceN n F = F n := by cases n <;> rfl
def forceF {α : Type} (x : Fin PP) (F : Fin PP → α) : α := forceN x.val fun n => F ⟨n % PP, Nat.mod_lt _ (by decide)⟩
theorem forceF_eq {α : Type} (x : Fin PP) (F : Fin PP → α) : forceF x F = F x := by
  unfold forceF
  rw [forceN_eq]
  exact congrArg F (Fin.ext (Nat.mod_eq_of_lt x.isLt))
def forceJ {α : Type} (j : J) (F : J → α) : α := forceF j.x fun x => forceF j.y fun y => forceF j.z fun z => F ⟨x, y, z⟩
theorem forceJ_eq {α : Type} (j : J) (F : J → α) : forceJ j F = F j := by
  unfold forceJ
  rw [forceF_eq, forceF_eq, forceF_eq]
def runG : Nat → J → J
  | 0, o => o
  | f + 1, o => forceJ (if QQ / 2 ^ f % 2 = 1 then jpl (jtw o) ⟨gx, gy, 1⟩ else jtw o) (runG f)
theorem runG_eq : ∀ f, f ≤ 256 → runG f (jlad [QQ] (jls (fun _ => Gp) 1) (256 - f)) = jlad [QQ] (jls (fun _ => Gp) 1) 256
  | 0, _ => rfl
  | f + 1, h => by
    have ih := runG_eq f (by omega)
    show forceJ _ (runG f) = _
    rw [forceJ_eq, ← ih]
    refine congrArg (runG f) ?_
    obtain ⟨m, hm⟩ : ∃ m, 256 - (f + 1) = m := ⟨_, rfl⟩
    rw [hm, show 256 - f = m + 1 by omega]
    show _ = jin [QQ] (jls (fun _ => Gp) 1) (255 - m) (jlad [QQ] (jls (fun _ => Gp) 1) m) 1
    rw [show 255 - m = f by omega]
    rfl
theorem run_zero : (runG 256 ⟨0, 0, 0⟩).z.val = 0 := by decide +kernel
theorem mul_QG : mulP QQ Gp = .inf := by
  have hG : ∀ i, i < 1 → ((fun _ => Gp) i : Pc).on 7 := fun _ _ => on_G
  have h := rep_jlad (ks := [QQ]) (P := fun _ => Gp) (n := 1) rfl (fun i hi => by
    obtain rfl : i = 0 := by omega
    show QQ < B6 ^ 4
    decide +kernel) hG 256 (Nat.le_refl _)
  rw [← runG_eq 256 (Nat.le_refl _)] at h
  rw [show jlad [QQ] (jls (fun _ => Gp) 1) (256 - 256) = ⟨0, 0, 0⟩ from rfl] at h
  have hz : (runG 256 ⟨0, 0, 0⟩).z = 0 := Fin.ext (run_zero.trans zero_val.symm)
  have e : sumF (fun j => [QQ].getD j 0 / 2 ^ (256 - 256)) (fun _ => Gp) 1 = mulP QQ Gp := by
    show addP .inf (mulP (QQ / 2 ^ 0) Gp) = _
    rw [inf_add, Nat.pow_zero, Nat.div_one]
  rw [e] at h
  generalize mulP QQ Gp = T at *
  cases h with
  | inf => rfl
  | aff hz' => exact absurd hz hz'

theorem add_left {A B C : Pc} (hA : A.on 7) (hB : B.on 7) (hC : C.on 7) (h : addP A B = addP A C) : B = C := by
  rw [← add_cancel inv_PP two_PP three_PP seven_PP hA hB, h, add_cancel inv_PP two_PP three_PP seven_PP hA hC]
theorem mul_dG {d : Nat} (h0 : 0 < d) (hd : d < QQ) : mulP d Gp ≠ .inf := by
  intro h
  obtain ⟨i, hi⟩ := inv_QQ ⟨d, hd⟩ (fun e => by
    have : d = 0 := congrArg Fin.val e
    omega)
  have hv : i.val * d % QQ = 1 := by
    have := congrArg Fin.val hi
    rw [Fin.val_mul] at this
    exact this.trans (by decide +kernel)
  have h1 : mulP (i.val * d) Gp = .inf := by rw [mulP_mul on_G, h, mulP_inf]
  have h2 : i.val * d = (i.val * d / QQ) * QQ + 1 := by
    have := Nat.div_add_mod (i.val * d) QQ
    rw [hv, Nat.mul_comm] at this
    exact this.symm
  rw [h2, mulP_add on_G, mulP_mul on_G, mul_QG, mulP_inf, mulP_one, inf_add] at h1
  cases h1
theorem mulG_lt {j k : Nat} (hjk : j < k) (hk : k < QQ) : mulP j Gp ≠ mulP k Gp := fun e => by
  have h : addP (mulP j Gp) .inf = addP (mulP j Gp) (mulP (k - j) Gp) := by
    rw [add_inf, ← mulP_add on_G, show j + (k - j) = k by omega]
    exact e
  exact mul_dG (by omega) (by omega) (add_left (mulP_on on_G j) inf_on (mulP_on on_G _) h).symm
theorem mulG_inj {j k : Nat} (hj : j < QQ) (hk : k < QQ) (e : mulP j Gp = mulP k Gp) : j = k := by
  rcases Nat.lt_trichotomy j k with h | h | h
  · exact absurd e (mulG_lt h hk)
  · exact h
  · exact absurd e.symm (mulG_lt h hj)
theorem neg_G {k : Nat} (hk : k < QQ) : (mulP k Gp).neg = mulP (QQ - k) Gp := by
  refine add_left (mulP_on on_G k) (on_neg (mulP_on on_G k)) (mulP_on on_G _) ?_
  rw [add_neg inv_PP two_PP (mulP_on on_G k), ← mulP_add on_G, show k + (QQ - k) = QQ by omega, mul_QG]
/-- If d times P differs from .. by multiples of the generator, it is one. -/
theorem coset {P : Pc} (hP : P.on 7) {i d j k : Nat} (hj : j < QQ) (hk : k < QQ) (e : addP (mulP (i + d) P) (mulP k Gp) = addP (mulP i P) (mulP j Gp)) : ∃ t, mulP d P = mulP t Gp := by
  have hK := mulP_on on_G k
  have hJ := mulP_on on_G j
  have hI := mulP_on hP i
  have hD := mulP_on hP d
  rw [mulP_add hP, curve_assoc hI hD hK] at e
  have e2 := add_left hI (curve_on hD hK) hJ e
  have e3 : addP (addP (mulP d P) (mulP k Gp)) (mulP k Gp).neg = addP (mulP j Gp) (mulP k Gp).neg := by rw [e2]
  rw [curve_assoc hD hK (on_neg hK), add_neg inv_PP two_PP hK, add_inf, neg_G hk, ← mulP_add on_G] at e3
  exact ⟨_, e3⟩
theorem half (P : Pc) (hP : P.on 7) : ∃ t, addP P P = mulP t Gp := by
  refine Classical.byContradiction fun hne => ?_
  have h2 : ¬ ∃ t, mulP 2 P = mulP t Gp := fun ⟨t, ht⟩ => hne ⟨t, by rw [← ht]; show _ = addP (addP .inf P) P; rw [inf_add]⟩
  have h1 : ¬ ∃ t, mulP 1 P = mulP t Gp := fun ⟨t, ht⟩ => hne ⟨t + t, by rw [mulP_add on_G, ← ht, mulP_one]⟩
  have hQ : 0 < QQ := by decide
  have hon : ∀ t, (addP (mulP (t / QQ) P) (mulP (t % QQ) Gp)).on 7 := fun t => curve_on (mulP_on hP _) (mulP_on on_G _)
  have hlt : ∀ i k s t, i < k → k < 3 → s < QQ → t < QQ → addP (mulP i P) (mulP s Gp) ≠ addP (mulP k P) (mulP t Gp) := fun i k s t hik hk3 hs ht e => by
    have hd : k - i = 1 ∨ k - i = 2 := by omega
    have hk : k = i + (k - i) := by omega
    rw [hk] at e
    rcases hd with hd | hd
    · rw [hd] at e; exact h1 (coset hP hs ht e.symm)
    · rw [hd] at e; exact h2 (coset hP hs ht e.symm)
  have := pigeon (2 * PP + 1) (3 * QQ) (fun t => code (addP (mulP (t / QQ) P) (mulP (t % QQ) Gp))) (fun t _ => code_lt _) (fun s t hs ht e => by
    have e := code_inj (hon s) (hon t) e
    have hs3 : s / QQ < 3 := (Nat.div_lt_iff_lt_mul hQ).2 hs
    have ht3 : t / QQ < 3 := (Nat.div_lt_iff_lt_mul hQ).2 ht
    have hsm := Nat.mod_lt s hQ
    have htm := Nat.mod_lt t hQ
    have es := Nat.div_add_mod s QQ
    have et := Nat.div_add_mod t QQ
    generalize s / QQ = a at *
    generalize t / QQ = c at *
    generalize s % QQ = u at *
    generalize t % QQ = v at *
    rcases Nat.lt_trichotomy a c with h | h | h
    · exact absurd e (hlt _ _ _ _ h ht3 hsm htm)
    · rw [h] at e
      have := mulG_inj hsm htm (add_left (mulP_on hP _) (mulP_on on_G _) (mulP_on on_G _) e)
      rw [← es, ← et, h, this]
    · exact absurd e.symm (hlt _ _ _ _ h hs3 htm hsm))
  exact absurd this (by decide +kernel)
/-- QQ times any point is the point at infinity. -/
theorem mul_QQ {P : Pc} (hP : P.on 7) : mulP QQ P = .inf := by
  obtain ⟨t, ht⟩ := half P hP
  have hQG := mul_QG
  generalize QQ = q at *
  refine no_two (mulP_on hP q) ?_
  rw [← mulP_addP hP hP, ht, ← mulP_mul on_G, Nat.mul_comm, mulP_mul on_G, hQG, mulP_inf]
theorem mul_mod {P : Pc} (hP : P.on 7) (k : Nat) : mulP (k % QQ) P = mulP k P := by
  have h := Nat.div_add_mod k QQ
  have e : mulP k P = mulP (k / QQ * QQ + k % QQ) P := by rw [Nat.mul_comm, h]
  rw [e, mulP_add hP, mulP_mul hP, mul_QQ hP, mulP_inf, inf_add]
theorem mul_last {P : Pc} (hP : P.on 7) : mulP (QQ - 1) P = P.neg := by
  have h0 := mul_QQ hP
  have hq : 1 + (QQ - 1) = QQ := by decide
  generalize QQ - 1 = r at *
  refine add_left hP (mulP_on hP _) (on_neg hP) ?_
  have h1 := mulP_add hP 1 r
  rw [mulP_one, hq, h0] at h1
  rw [add_neg inv_PP two_PP hP, ← h1]

end Go.Proofs.Ytplldbmjdnikeaa
