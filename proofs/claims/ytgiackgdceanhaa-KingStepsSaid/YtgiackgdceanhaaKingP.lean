/- The plain law of king: agreement, whatever at most f nodes tell. No program in sight. -/
import Derived.Test.YtgiackgdceanhaaKingC
namespace Go.Proofs.Ytgiackgdceanhaa
set_option linter.unusedVariables false
set_option linter.unusedSimpArgs false

def num (n : Nat) (p : Nat → Bool) : Nat := (List.range n).countP p

theorem num_succ (n : Nat) (p : Nat → Bool) : num (n+1) p = num n p + if p n then 1 else 0 := by
  unfold num
  rw [List.range_succ, List.countP_append]
  simp [List.countP_cons]

theorem num_mono {n : Nat} {p q : Nat → Bool} (h : ∀ j, j < n → p j = true → q j = true) : num n p ≤ num n q := by
  induction n with
  | zero => simp [num]
  | succ n ih =>
    rw [num_succ, num_succ]
    have := ih (fun j hj => h j (by omega))
    have h1 := h n (by omega)
    cases hp : p n <;> cases hq : q n <;> simp_all <;> omega

theorem num_or {n : Nat} {p q r : Nat → Bool} (h : ∀ j, j < n → p j = true → q j = true ∨ r j = true) : num n p ≤ num n q + num n r := by
  induction n with
  | zero => simp [num]
  | succ n ih =>
    rw [num_succ, num_succ, num_succ]
    have := ih (fun j hj => h j (by omega))
    have h1 := h n (by omega)
    cases hp : p n <;> cases hq : q n <;> cases hr : r n <;> simp_all <;> omega

/-- Three that no two share: their numbers add up to n at most. -/
theorem num_three {n : Nat} {p q r : Nat → Bool} (h : ∀ j, j < n → (p j = true → q j = false) ∧ (p j = true → r j = false) ∧ (q j = true → r j = false)) : num n p + num n q + num n r ≤ n := by
  induction n with
  | zero => simp [num]
  | succ n ih =>
    rw [num_succ, num_succ, num_succ]
    have := ih (fun j hj => h j (by omega))
    have h1 := h n (by omega)
    cases hp : p n <;> cases hq : q n <;> cases hr : r n <;> simp_all <;> omega

theorem num_not (n : Nat) (p : Nat → Bool) : num n p + num n (fun j => !p j) = n := by
  induction n with
  | zero => simp [num]
  | succ n ih =>
    rw [num_succ, num_succ]
    cases hp : p n <;> simp <;> omega

theorem num_pos {n : Nat} {p : Nat → Bool} (h : 0 < num n p) : ∃ j, j < n ∧ p j = true := by
  induction n with
  | zero => simp [num] at h
  | succ n ih =>
    rw [num_succ] at h
    cases hp : p n
    · simp [hp] at h
      obtain ⟨j, hj, e⟩ := ih h
      exact ⟨j, by omega, e⟩
    · exact ⟨n, by omega, hp⟩

theorem num_le (n : Nat) (p : Nat → Bool) : num n p ≤ n := by
  unfold num; have := List.countP_le_length (p := p) (l := List.range n); simpa using this

theorem cc_num (zs : List Int) (x : Int) : cc zs x = num zs.length (fun j => clampw (zs.getD j 0) == x) := by
  unfold cc cnt num
  rw [← List.countP_eq_length_filter, List.countP_map]
  congr 1
  conv => lhs; rw [show zs = (List.range zs.length).map (fun j => zs.getD j 0) from by
    exact List.ext_getElem (by simp) (by intro i h1 h2; simp [h1])]
  rw [List.countP_map]
  rfl

/-- A node's value and whether it is backed. -/
structure KS where
  v : Int
  bk : Bool

/-- One round: F: those that may tell anything. -/
def KStep (n : Nat) (f : Int) (F : Nat → Bool) (r : Int) (ks ks' : Nat → KS) : Prop :=
  ∀ i, i < n → ∃ told : List Int, told.length = n ∧ (∀ j, j < n → F j = false → told.getD j 0 = (ks j).v) ∧
    ks' i = ⟨(hearV n f (ks i).v r (ks i).bk told).1, (hearV n f (ks i).v r (ks i).bk told).2⟩

section
variable {n : Nat} {f : Int} {F : Nat → Bool} {ks : Nat → KS} {told : List Int}

theorem cc_ge (hl : told.length = n) (ht : ∀ j, j < n → F j = false → told.getD j 0 = (ks j).v) (x : Int) :
    (num n (fun j => !F j && (clampw (ks j).v == x)) : Int) ≤ cc told x := by
  rw [cc_num, hl]
  have := num_mono (n := n) (p := fun j => !F j && (clampw (ks j).v == x)) (q := fun j => clampw (told.getD j 0) == x) (by
    intro j hj h
    simp only [Bool.and_eq_true, Bool.not_eq_true'] at h
    rw [ht j hj h.1]; exact h.2)
  omega

theorem cc_le (hl : told.length = n) (ht : ∀ j, j < n → F j = false → told.getD j 0 = (ks j).v) (x : Int) :
    cc told x ≤ num n (fun j => !F j && (clampw (ks j).v == x)) + num n F := by
  rw [cc_num, hl]
  have := num_or (n := n) (p := fun j => clampw (told.getD j 0) == x) (q := fun j => !F j && (clampw (ks j).v == x)) (r := F) (by
    intro j hj h
    cases hF : F j
    · left; rw [ht j hj hF] at h; simpa using h
    · right; rfl)
  omega
end

def Tab (n : Nat) (f : Int) (F : Nat → Bool) : Prop := 0 ≤ f ∧ 3 * f < n ∧ (num n F : Int) ≤ f

/-- All that do as told have the value x. -/
def All (n : Nat) (F : Nat → Bool) (ks : Nat → KS) (x : Int) : Prop := ∀ i, i < n → F i = false → (ks i).v = x

theorem num_all {n : Nat} {F : Nat → Bool} {ks : Nat → KS} {x : Int} (hx : x = 0 ∨ x = 1) (h : All n F ks x) :
    num n (fun j => !F j && (clampw (ks j).v == x)) = n - num n F ∧ ∀ y, y ≠ x → num n (fun j => !F j && (clampw (ks j).v == y)) = 0 := by
  have hc : clampw x = x := by rcases hx with rfl | rfl <;> rfl
  constructor
  · have h1 := num_mono (n := n) (p := fun j => !F j && (clampw (ks j).v == x)) (q := fun j => !F j) (by intro j _ h; simp at h; simp [h.1])
    have h2 := num_mono (n := n) (q := fun j => !F j && (clampw (ks j).v == x)) (p := fun j => !F j) (by
      intro j hj hF; simp at hF; simp [hF, h j hj hF, hc])
    have h3 := num_not n F
    omega
  · intro y hy
    rcases Nat.eq_zero_or_pos (num n (fun j => !F j && (clampw (ks j).v == y))) with h0 | h0
    · exact h0
    · obtain ⟨j, hj, e⟩ := num_pos h0
      simp at e
      rw [h j hj e.1, hc] at e
      exact absurd e.2.symm hy

theorem keep0 {n : Nat} {f : Int} {F : Nat → Bool} {ks ks' : Nat → KS} {r x : Int} (ht : Tab n f F) (hx : x = 0 ∨ x = 1) (h : All n F ks x) (hr : r % 3 = 0)
    (hs : KStep n f F r ks ks') : All n F ks' x := by
  intro i hi hF
  obtain ⟨told, hl, htold, e⟩ := hs i hi
  obtain ⟨t1, t2, t3⟩ := ht
  obtain ⟨n1, n2⟩ := num_all hx h
  have hle := num_le n F
  rw [e]
  simp only [hearV, hr, if_true, exV]
  rcases hx with rfl | rfl
  · have a := cc_ge hl htold 0
    have b := cc_le hl htold 1
    rw [n1] at a; rw [n2 1 (by omega)] at b
    rw [if_neg (by omega), if_pos (by omega)]
  · have a := cc_ge hl htold 1
    rw [n1] at a
    rw [if_pos (by omega)]

theorem keep1 {n : Nat} {f : Int} {F : Nat → Bool} {ks ks' : Nat → KS} {r x : Int} (ht : Tab n f F) (hx : x = 0 ∨ x = 1) (h : All n F ks x) (hr : r % 3 = 1)
    (hs : KStep n f F r ks ks') : All n F ks' x ∧ ∀ i, i < n → F i = false → (ks' i).bk = true := by
  have key : ∀ i, i < n → F i = false → (ks' i).v = x ∧ (ks' i).bk = true := by
    intro i hi hF
    obtain ⟨told, hl, htold, e⟩ := hs i hi
    obtain ⟨t1, t2, t3⟩ := ht
    obtain ⟨n1, n2⟩ := num_all hx h
    have hle := num_le n F
    rw [e]
    simp only [hearV]
    rw [if_neg (by omega), if_pos hr]
    rcases hx with rfl | rfl
    · have a := cc_ge hl htold 0
      rw [n1] at a
      have hv : seV (ks i).v f told = 0 := by unfold seV; rw [if_pos (by omega)]
      simp only [hv]
      exact ⟨trivial, by simp; omega⟩
    · have a := cc_ge hl htold 1
      have b := cc_le hl htold 0
      rw [n1] at a; rw [n2 0 (by omega)] at b
      have hv : seV (ks i).v f told = 1 := by unfold seV; rw [if_neg (by omega), if_pos (by omega)]
      simp only [hv]
      exact ⟨trivial, by simp; omega⟩
  exact ⟨fun i hi hF => (key i hi hF).1, fun i hi hF => (key i hi hF).2⟩

theorem keep2 {n : Nat} {f : Int} {F : Nat → Bool} {ks ks' : Nat → KS} {r x : Int} (hx : x = 0 ∨ x = 1) (h : All n F ks x) (hb : ∀ i, i < n → F i = false → (ks i).bk = true) (hr : r % 3 = 2)
    (hs : KStep n f F r ks ks') : All n F ks' x := by
  intro i hi hF
  obtain ⟨told, hl, htold, e⟩ := hs i hi
  rw [e]
  simp only [hearV]
  rw [if_neg (by omega), if_neg (by omega)]
  have hv := h i hi hF
  simp only [crV, hb i hi hF, hv]
  rw [if_pos ⟨by omega, trivial⟩]

/-- What is so ahead of a phase stays so. -/
theorem keep3 {n : Nat} {f : Int} {F : Nat → Bool} {sq : Nat → Nat → KS} {p : Nat} {x : Int} (ht : Tab n f F) (hx : x = 0 ∨ x = 1)
    (hs : ∀ r, r < 3 * p + 3 → KStep n f F r (sq r) (sq (r+1))) (h : All n F (sq (3*p)) x) : All n F (sq (3*p+3)) x := by
  have a := keep0 ht hx h (r := ((3*p : Nat) : Int)) (by omega) (hs (3*p) (by omega))
  have b := keep1 ht hx a (r := ((3*p+1 : Nat) : Int)) (by omega) (hs (3*p+1) (by omega))
  exact keep2 hx b.1 b.2 (r := ((3*p+2 : Nat) : Int)) (by omega) (hs (3*p+2) (by omega))

theorem keep_on {n : Nat} {f : Int} {F : Nat → Bool} {sq : Nat → Nat → KS} {p q : Nat} {x : Int} (ht : Tab n f F) (hx : x = 0 ∨ x = 1)
    (hs : ∀ r, r < 3 * (p + q) → KStep n f F r (sq r) (sq (r+1))) (h : All n F (sq (3*p)) x) : All n F (sq (3*(p+q))) x := by
  induction q with
  | zero => exact h
  | succ q ih =>
    have a := ih (fun r hr => hs r (by omega))
    exact keep3 (p := p + q) ht hx (fun r hr => hs r (by omega)) a

/-- Behind the first round all that do as told have w or 2. -/
theorem ex_one {n : Nat} {f : Int} {F : Nat → Bool} {ks ks' : Nat → KS} {r : Int} (ht : Tab n f F) (hr : r % 3 = 0) (hs : KStep n f F r ks ks') :
    ∃ x : Int, (x = 0 ∨ x = 1) ∧ ∀ i, i < n → F i = false → (ks' i).v = x ∨ (ks' i).v = 2 := by
  obtain ⟨t1, t2, t3⟩ := ht
  by_cases h1 : ∃ i, i < n ∧ F i = false ∧ (ks' i).v = 1
  · refine ⟨1, .inr rfl, ?_⟩
    obtain ⟨i, hi, hF, hv⟩ := h1
    intro j hj hFj
    obtain ⟨ti, hli, hti, ei⟩ := hs i hi
    obtain ⟨tj, hlj, htj, ej⟩ := hs j hj
    rw [ei] at hv
    rw [ej]
    simp only [hearV, hr, if_true, exV] at hv ⊢
    have c1 : (n : Int) - f ≤ cc ti 1 := by
      by_cases hc : (n : Int) - f ≤ cc ti 1
      · exact hc
      · rw [if_neg hc] at hv
        split at hv <;> omega
    by_cases h2 : (n : Int) - f ≤ cc tj 1
    · rw [if_pos h2]; exact .inl rfl
    · rw [if_neg h2]
      by_cases h3 : (n : Int) - f ≤ cc tj 0
      · exfalso
        have a := cc_le hli hti 1
        have b := cc_le hlj htj 0
        have c := num_three (n := n) (p := fun j => !F j && (clampw (ks j).v == 1)) (q := fun j => !F j && (clampw (ks j).v == 0)) (r := F) (by
          intro j _
          cases F j <;> simp
          intro h; rw [h]; decide)
        omega
      · rw [if_neg h3]; exact .inr rfl
  · refine ⟨0, .inl rfl, ?_⟩
    intro j hj hFj
    have hne : (ks' j).v ≠ 1 := fun e => h1 ⟨j, hj, hFj, e⟩
    obtain ⟨tj, hlj, htj, ej⟩ := hs j hj
    rw [ej] at hne ⊢
    simp only [hearV, hr, if_true, exV] at hne ⊢
    split
    · rename_i h; rw [if_pos h] at hne; exact absurd rfl hne
    · split
      · exact .inl rfl
      · exact .inr rfl

/-- A phase whose king does as told makes all agree. -/
theorem phase {n : Nat} {f : Int} {F : Nat → Bool} {sq : Nat → Nat → KS} {p : Nat} (ht : Tab n f F) (hp : p < n) (hk : F p = false)
    (hs : ∀ r, r < 3 * p + 3 → KStep n f F r (sq r) (sq (r+1))) : ∃ x : Int, (x = 0 ∨ x = 1) ∧ All n F (sq (3*p+3)) x := by
  obtain ⟨x, hx, h1⟩ := ex_one ht (r := ((3*p : Nat) : Int)) (by omega) (hs (3*p) (by omega))
  have s1 := hs (3*p+1) (by omega)
  have s2 := hs (3*p+2) (by omega)
  obtain ⟨t1, t2, t3⟩ := ht
  -- the other value is told by those alone that may tell anything
  have other : ∀ (told : List Int), told.length = n → (∀ j, j < n → F j = false → told.getD j 0 = (sq (3*p+1) j).v) → cc told (1 - x) ≤ f := by
    intro told hl htold
    have a := cc_le hl htold (1 - x)
    have b : num n (fun j => !F j && (clampw (sq (3*p+1) j).v == 1 - x)) = 0 := by
      rcases Nat.eq_zero_or_pos (num n (fun j => !F j && (clampw (sq (3*p+1) j).v == 1 - x))) with h0 | h0
      · exact h0
      · obtain ⟨j, hj, e⟩ := num_pos h0
        simp at e
        rcases h1 j hj e.1 with h | h <;> rw [h] at e
        · rcases hx with rfl | rfl <;> simp [clampw] at e
        · rcases hx with rfl | rfl <;> simp [clampw] at e
    omega
  have after : ∀ i, i < n → F i = false → (sq (3*p+2) i).v = x ∨ (sq (3*p+2) i).v = 2 := by
    intro i hi hF
    obtain ⟨told, hl, htold, e⟩ := s1 i hi
    have ho := other told hl htold
    have hv := h1 i hi hF
    rw [e]
    simp only [hearV]
    rw [if_neg (by omega), if_pos (by omega)]
    simp only [seV]
    rcases hx with rfl | rfl
    · simp only [Int.sub_zero] at ho
      split
      · exact .inl rfl
      · rw [if_neg (by omega)]
        split
        · exact .inr rfl
        · exact hv
    · simp only [Int.sub_self] at ho
      rw [if_neg (by omega)]
      split
      · exact .inl rfl
      · split
        · exact .inr rfl
        · exact hv
  -- what the king tells
  have crown : ∀ i, i < n → F i = false → ∃ told : List Int, told.length = n ∧ told.getD p 0 = (sq (3*p+2) p).v ∧ (sq (3*p+3) i).v = crV (sq (3*p+2) i).v ((3*p+2 : Nat) : Int) (sq (3*p+2) i).bk told := by
    intro i hi hF
    obtain ⟨told, hl, htold, e⟩ := s2 i hi
    refine ⟨told, hl, htold p hp hk, ?_⟩
    rw [e]
    simp only [hearV]
    rw [if_neg (by omega), if_neg (by omega)]
  have hdiv : (((3*p+2 : Nat) : Int) / 3).toNat = p := by omega
  by_cases hb : ∃ i, i < n ∧ F i = false ∧ (sq (3*p+2) i).v = x ∧ (sq (3*p+2) i).bk = true
  · refine ⟨x, hx, ?_⟩
    obtain ⟨i, hi, hF, hv, hbk⟩ := hb
    -- then all have x
    have alls : ∀ j, j < n → F j = false → (sq (3*p+2) j).v = x := by
      intro j hj hFj
      obtain ⟨ti, hli, hti, ei⟩ := s1 i hi
      obtain ⟨tj, hlj, htj, ej⟩ := s1 j hj
      rw [ei] at hv hbk
      simp only [hearV] at hv hbk
      rw [if_neg (by omega), if_pos (by omega)] at hv hbk
      dsimp only at hv hbk
      rw [hv] at hbk
      simp only [decide_eq_true_eq] at hbk
      have a := cc_le hli hti x
      have b := cc_ge hlj htj x
      have ho := other tj hlj htj
      rw [ej]
      simp only [hearV]
      rw [if_neg (by omega), if_pos (by omega)]
      simp only [seV]
      rcases hx with rfl | rfl
      · rw [if_pos (by omega)]
      · simp only [Int.sub_self] at ho
        rw [if_neg (by omega), if_pos (by omega)]
    intro j hj hFj
    obtain ⟨told, hl, hkg, e⟩ := crown j hj hFj
    rw [e, crV, hdiv, hkg, alls j hj hFj, alls p hp hk]
    rcases hx with rfl | rfl <;> simp
  · refine ⟨if (sq (3*p+2) p).v = 0 then 0 else 1, by split <;> simp, ?_⟩
    intro j hj hFj
    obtain ⟨told, hl, hkg, e⟩ := crown j hj hFj
    rw [e, crV, hdiv, hkg, if_neg]
    rintro ⟨h2, h3⟩
    rcases after j hj hFj with h | h
    · exact hb ⟨j, hj, hFj, h, h3⟩
    · exact h2 h

/-- ALL THAT DO AS TOLD END WITH ONE VALUE. -/
theorem agrees {n f : Nat} {F : Nat → Bool} {sq : Nat → Nat → KS} (ht : Tab n f F)
    (hs : ∀ r, r < 3 * (f + 1) → KStep n f F r (sq r) (sq (r+1))) : ∃ x : Int, (x = 0 ∨ x = 1) ∧ All n F (sq (3*(f+1))) x := by
  have ht' := ht
  obtain ⟨t1, t2, t3⟩ := ht'
  have hex : ∃ p, p < f + 1 ∧ F p = false := by
    have h1 : num (f+1) F ≤ num n F := by
      have : ∀ k m, num m F ≤ num (m+k) F := by
        intro k m
        induction k with
        | zero => exact Nat.le_refl _
        | succ k ih => rw [← Nat.add_assoc, num_succ]; omega
      have h2 := this (n - (f+1)) (f+1)
      rwa [show f + 1 + (n - (f+1)) = n by omega] at h2
    have h3 := num_not (f+1) F
    obtain ⟨p, hp, e⟩ := num_pos (n := f+1) (p := fun j => !F j) (by omega)
    exact ⟨p, hp, by simpa using e⟩
  obtain ⟨p, hp, hF⟩ := hex
  obtain ⟨x, hx, ha⟩ := phase ht (p := p) (by omega) hF (fun r hr => hs r (by omega))
  refine ⟨x, hx, ?_⟩
  have := keep_on (p := p + 1) (q := f - p) ht hx (fun r hr => hs r (by omega)) ha
  rwa [show p + 1 + (f - p) = f + 1 by omega] at this

theorem keeps {n f : Nat} {F : Nat → Bool} {sq : Nat → Nat → KS} {x : Int} (ht : Tab n f F) (hx : x = 0 ∨ x = 1)
    (hs : ∀ r, r < 3 * (f + 1) → KStep n f F r (sq r) (sq (r+1))) (h : All n F (sq 0) x) : All n F (sq (3*(f+1))) x := by
  have := keep_on (p := 0) (q := f + 1) ht hx (fun r hr => hs r (by omega)) h
  simpa using this

end Go.Proofs.Ytgiackgdceanhaa
