import Derived.WalkKit

/- Prime numbers in plain Lean: Euclid's lemma, Fermat's little theorem, Pocklington's test. -/
namespace Go.Proofs.Ytplldbmjdnikeaa
set_option linter.unusedVariables false
set_option linter.unusedSimpArgs false

/-- A prime number. -/
def Prm (p : Nat) : Prop := 2 ≤ p ∧ ∀ d, d ∣ p → d = 1 ∨ d = p

theorem Prm.pos {p : Nat} (h : Prm p) : 0 < p := by have := h.1; omega
theorem Prm.gcd {p a : Nat} (h : Prm p) (ha : ¬ p ∣ a) : Nat.gcd p a = 1 := by
  rcases h.2 _ (Nat.gcd_dvd_left p a) with h1 | h1
  · exact h1
  · exact absurd (h1 ▸ Nat.gcd_dvd_right p a) ha
/-- Euclid's lemma. -/
theorem Prm.dvd_mul {p a b : Nat} (h : Prm p) (hd : p ∣ a * b) : p ∣ a ∨ p ∣ b := by
  by_cases ha : p ∣ a
  · exact Or.inl ha
  · exact Or.inr (Nat.Coprime.dvd_of_dvd_mul_left (h.gcd ha) hd)

theorem dvd_of_mod {p x y : Nat} (h : x % p = y % p) : p ∣ y - x := Nat.dvd_of_mod_eq_zero (Nat.sub_mod_eq_zero_of_mod_eq h.symm)
theorem mod_of_dvd {p x y : Nat} (hxy : x ≤ y) (h : p ∣ y - x) : x % p = y % p := by
  obtain ⟨k, hk⟩ := h
  have : y = x + p * k := by omega
  rw [this, Nat.add_mul_mod_self_left]
theorem mod_down {p n x y : Nat} (hp : p ∣ n) (h : x % n = y % n) : x % p = y % p := by
  rw [← Nat.mod_mod_of_dvd x hp, h, Nat.mod_mod_of_dvd y hp]

theorem mod_cancel {p c a b : Nat} (h : Prm p) (hc : ¬ p ∣ c) (e : c * a % p = c * b % p) : a % p = b % p := by
  rcases Nat.le_total a b with hab | hab
  · have h1 : p ∣ c * (b - a) := by
      rw [Nat.mul_sub]
      exact dvd_of_mod e
    rcases h.dvd_mul h1 with h2 | h2
    · exact absurd h2 hc
    · exact mod_of_dvd hab h2
  · have h1 : p ∣ c * (a - b) := by
      rw [Nat.mul_sub]
      exact dvd_of_mod e.symm
    rcases h.dvd_mul h1 with h2 | h2
    · exact absurd h2 hc
    · exact (mod_of_dvd hab h2).symm

/-- A list without doubles, all of it in another one that is no longer, is that one in another order. -/
theorem perm_of_nodup : ∀ {l m : List Nat}, l.Nodup → (∀ x ∈ l, x ∈ m) → m.length ≤ l.length → l.Perm m
  | [], m, _, _, h => by
    have : m = [] := List.eq_nil_of_length_eq_zero (by simpa using h)
    rw [this]
  | x :: l, m, hn, hs, h => by
    have hx : x ∈ m := hs x (by simp)
    have hp := List.perm_cons_erase hx
    refine List.Perm.trans ?_ hp.symm
    refine List.Perm.cons x (perm_of_nodup (List.nodup_cons.1 hn).2 (fun y hy => ?_) ?_)
    · have hy2 := hs y (by simp [hy])
      have hne : y ≠ x := by
        rintro rfl
        exact (List.nodup_cons.1 hn).1 hy
      exact (List.mem_erase_of_ne hne).2 hy2
    · have := hp.length_eq
      simp at this h
      omega

def prod (l : List Nat) : Nat := l.foldr (· * ·) 1
theorem prod_perm {l m : List Nat} (h : l.Perm m) : prod l = prod m := by
  induction h with
  | nil => rfl
  | cons x _ ih => simp only [prod, List.foldr_cons] at ih ⊢; rw [ih]
  | swap x y l => simp only [prod, List.foldr_cons]; rw [Nat.mul_left_comm]
  | trans _ _ i j => exact i.trans j
theorem prod_map (a p : Nat) : ∀ l : List Nat, prod (l.map (fun i => a * i % p)) % p = a ^ l.length * prod l % p
  | [] => by simp [prod]
  | x :: l => by
    have ih := prod_map a p l
    simp only [prod, List.map_cons, List.foldr_cons, List.length_cons] at ih ⊢
    rw [Nat.mul_mod, Nat.mod_mod, ih, ← Nat.mul_mod]
    congr 1
    rw [Nat.pow_succ]
    simp only [Nat.mul_assoc, Nat.mul_left_comm, Nat.mul_comm]
theorem prod_not_dvd {p : Nat} (h : Prm p) : ∀ l : List Nat, (∀ x ∈ l, ¬ p ∣ x) → ¬ p ∣ prod l
  | [], _ => by
    simp only [prod, List.foldr_nil]
    intro hd
    have := Nat.le_of_dvd (by omega) hd
    have := h.1
    omega
  | x :: l, hl => by
    simp only [prod, List.foldr_cons]
    intro hd
    rcases h.dvd_mul hd with h1 | h1
    · exact hl x (by simp) h1
    · exact prod_not_dvd h l (fun y hy => hl y (by simp [hy])) h1

/-- Fermat's little theorem. -/
theorem fermat {p a : Nat} (h : Prm p) (ha : ¬ p ∣ a) : a ^ (p - 1) % p = 1 := by
  have h2 := h.1
  have hnd : ∀ x, x ∈ (List.range (p - 1)).map (· + 1) → 1 ≤ x ∧ x < p := by
    intro x hx
    simp only [List.mem_map, List.mem_range] at hx
    obtain ⟨i, hi, rfl⟩ := hx
    omega
  have hnot : ∀ x ∈ (List.range (p - 1)).map (· + 1), ¬ p ∣ x := by
    intro x hx hd
    have := hnd x hx
    have := Nat.le_of_dvd (by omega) hd
    omega
  obtain ⟨L, hL⟩ : ∃ L, (List.range (p - 1)).map (· + 1) = L := ⟨_, rfl⟩
  have hlen : L.length = p - 1 := by rw [← hL]; simp
  have hN : L.Nodup := by
    rw [← hL]
    refine List.Pairwise.map _ ?_ List.nodup_range
    intro x y hxy e
    exact hxy (by omega)
  have hmem : ∀ x, 1 ≤ x → x < p → x ∈ L := by
    intro x h1 h2
    rw [← hL]
    exact List.mem_map.2 ⟨x - 1, List.mem_range.2 (by omega), by omega⟩
  rw [hL] at hnd hnot
  have hM : (L.map (fun i => a * i % p)).Nodup := by
    refine List.Pairwise.map _ ?_ (List.Pairwise.imp_of_mem (fun hx hy hxy => ?_) hN) (R := fun x y => x ∈ L ∧ y ∈ L ∧ x ≠ y)
    · rintro x y ⟨hx, hy, hxy⟩ e
      have := mod_cancel h ha e
      rw [Nat.mod_eq_of_lt (hnd x hx).2, Nat.mod_eq_of_lt (hnd y hy).2] at this
      exact hxy this
    · exact ⟨hx, hy, hxy⟩
  have hP : (L.map (fun i => a * i % p)).Perm L := by
    refine perm_of_nodup hM (fun x hx => ?_) (by simp)
    obtain ⟨i, hi, rfl⟩ := List.mem_map.1 hx
    refine hmem _ ?_ (Nat.mod_lt _ h.pos)
    rcases Nat.eq_zero_or_pos (a * i % p) with h0 | h0
    · rcases h.dvd_mul (Nat.dvd_of_mod_eq_zero h0) with h1 | h1
      · exact absurd h1 ha
      · exact absurd h1 (hnot i hi)
    · exact h0
  have e1 := prod_map a p L
  rw [prod_perm hP, hlen] at e1
  have e2 : prod L * (a ^ (p - 1)) % p = prod L * 1 % p := by rw [Nat.mul_comm, ← e1, Nat.mul_one]
  have e3 := mod_cancel h (prod_not_dvd h L hnot) e2
  rw [e3, Nat.mod_eq_of_lt (by omega)]

theorem pow_gcd_one {a n : Nat} (hn : 1 < n) : ∀ {x y : Nat}, a ^ x % n = 1 → a ^ y % n = 1 → a ^ Nat.gcd x y % n = 1 := by
  intro x y
  induction x, y using Nat.gcd.induction with
  | H0 y => intro _ hy; simpa using hy
  | H1 x y hx ih =>
    intro h1 h2
    rw [Nat.gcd_rec]
    refine ih ?_ h1
    have e : a ^ y = (a ^ x) ^ (y / x) * a ^ (y % x) := by
      rw [← Nat.pow_mul, ← Nat.pow_add, Nat.div_add_mod]
    rw [e, Nat.mul_mod, Nat.pow_mod, h1, Nat.one_pow, Nat.mod_eq_of_lt hn, Nat.one_mul, Nat.mod_mod] at h2
    exact h2

/-- The heart of Pocklington's test: a prime divisor p of n has q in p - 1. -/
theorem pock {n q m a p : Nat} (hq : Prm q) (hp : Prm p) (hpn : p ∣ n) (h1 : a ^ (q * m) % n = 1) (h2 : ∃ c, a ^ m * c % n = (1 + c) % n) : q ∣ p - 1 := by
  have hp2 := hp.1
  have h1p : a ^ (q * m) % p = 1 := by
    have : a ^ (q * m) % n % p = 1 % p := by rw [h1]
    rw [Nat.mod_mod_of_dvd _ hpn, Nat.mod_eq_of_lt (show 1 < p by omega)] at this
    exact this
  refine Classical.byContradiction fun hd => ?_
  have hcop := hq.gcd hd
  have hG1 : Nat.gcd (q * m) (p - 1) ∣ m := by
    refine Nat.Coprime.dvd_of_dvd_mul_left (m := q) ?_ (Nat.gcd_dvd_left _ _)
    have : Nat.gcd (Nat.gcd (q * m) (p - 1)) q ∣ Nat.gcd q (p - 1) := Nat.dvd_gcd (Nat.gcd_dvd_right _ _) (Nat.dvd_trans (Nat.gcd_dvd_left _ _) (Nat.gcd_dvd_right _ _))
    rw [hcop] at this
    exact Nat.eq_one_of_dvd_one this
  have hm1 : a ^ m % p = 1 := by
    by_cases hm0 : m = 0
    · subst hm0; rw [Nat.pow_zero, Nat.mod_eq_of_lt (by omega)]
    · by_cases hq0 : q * m = 0
      · have := hq.pos
        rcases Nat.mul_eq_zero.1 hq0 with h | h <;> omega
      · have hpa : ¬ p ∣ a := by
          intro hpa
          have : p ∣ a ^ (q * m) := by
            obtain ⟨j, hj⟩ := Nat.exists_eq_succ_of_ne_zero hq0
            rw [hj, Nat.pow_succ]
            exact Nat.dvd_trans hpa (Nat.dvd_mul_left a _)
          rw [Nat.mod_eq_zero_of_dvd this] at h1p
          omega
        have hg := pow_gcd_one (a := a) (n := p) (by omega) h1p (fermat hp hpa)
        obtain ⟨k, hk⟩ := hG1
        have e : a ^ m = (a ^ Nat.gcd (q * m) (p - 1)) ^ k := by rw [← Nat.pow_mul, ← hk]
        rw [e, Nat.pow_mod, hg, Nat.one_pow, Nat.mod_eq_of_lt (by omega)]
  obtain ⟨c, hc⟩ := h2
  have hc2 := mod_down hpn hc
  rw [Nat.mul_mod, hm1, Nat.one_mul, Nat.mod_mod] at hc2
  have hd1 := dvd_of_mod hc2
  rw [Nat.add_sub_cancel] at hd1
  have := Nat.le_of_dvd (by omega) hd1
  omega

/-- Each number from 2 on has a prime divisor. -/
theorem has_prime : ∀ (k n : Nat), n ≤ k → 2 ≤ n → ∃ p, Prm p ∧ p ∣ n
  | 0, n, h, h2 => by omega
  | k + 1, n, h, h2 => by
    by_cases hp : Prm n
    · exact ⟨n, hp, Nat.dvd_refl n⟩
    · have : ∃ d, d ∣ n ∧ d ≠ 1 ∧ d ≠ n := by
        refine Classical.byContradiction fun hno => hp ⟨h2, fun d hd => ?_⟩
        refine Classical.byContradiction fun hd2 => hno ⟨d, hd, fun e => hd2 (Or.inl e), fun e => hd2 (Or.inr e)⟩
      obtain ⟨d, hd, h1, hn⟩ := this
      have hdl := Nat.le_of_dvd (by omega) hd
      have hd0 : d ≠ 0 := by
        rintro rfl
        have := Nat.eq_zero_of_zero_dvd hd
        omega
      obtain ⟨p, hp, hpd⟩ := has_prime k d (by omega) (by omega)
      exact ⟨p, hp, Nat.dvd_trans hpd hd⟩

/-- A number whose prime divisors all are 1 by F, F great, is prime. -/
theorem prime_of {n F : Nat} (h2 : 2 ≤ n) (hF : n < F * F) (h : ∀ p, Prm p → p ∣ n → F ∣ p - 1) : Prm n := by
  refine Classical.byContradiction fun hp => ?_
  have : ∃ d, d ∣ n ∧ d ≠ 1 ∧ d ≠ n := by
    refine Classical.byContradiction fun hno => hp ⟨h2, fun d hd => ?_⟩
    refine Classical.byContradiction fun hd2 => hno ⟨d, hd, fun e => hd2 (Or.inl e), fun e => hd2 (Or.inr e)⟩
  obtain ⟨d, ⟨e, hde⟩, h1, hn⟩ := this
  have hd0 : d ≠ 0 := by rintro rfl; rw [Nat.zero_mul] at hde; omega
  have he0 : e ≠ 0 := by rintro rfl; rw [Nat.mul_zero] at hde; omega
  have he1 : e ≠ 1 := by rintro rfl; rw [Nat.mul_one] at hde; omega
  have key : ∀ x, 2 ≤ x → x ∣ n → F < x := by
    intro x hx hxn
    obtain ⟨p, hp, hpx⟩ := has_prime x x (Nat.le_refl _) hx
    have h3 := h p hp (Nat.dvd_trans hpx hxn)
    have h4 := hp.1
    have h5 := Nat.le_of_dvd (by omega) h3
    have h6 := Nat.le_of_dvd (by omega) hpx
    omega
  have k1 := key d (by omega) ⟨e, hde⟩
  have k2 := key e (by omega) ⟨d, by rw [Nat.mul_comm]; exact hde⟩
  have := Nat.mul_lt_mul_of_lt_of_lt k1 k2
  omega

/-- a to the e, mod n, by squaring: k bits of e are looked at. -/
def powm (n : Nat) : Nat → Nat → Nat → Nat
  | 0, _, _ => 1 % n
  | k + 1, a, e => if e % 2 = 1 then a * powm n k (a * a % n) (e / 2) % n else powm n k (a * a % n) (e / 2)
theorem powm_eq (n : Nat) : ∀ (k a e : Nat), e < 2 ^ k → powm n k a e = a ^ e % n
  | 0, a, e, h => by
    have : e = 0 := by simpa using h
    subst this; simp [powm]
  | k + 1, a, e, h => by
    have h2 : e / 2 < 2 ^ k := by rw [Nat.pow_succ] at h; omega
    have ih := powm_eq n k (a * a % n) (e / 2) h2
    have e1 : (a * a % n) ^ (e / 2) % n = a ^ (2 * (e / 2)) % n := by
      rw [← Nat.pow_mod, Nat.pow_mul, Nat.pow_two]
    unfold powm
    rw [ih, e1]
    by_cases ho : e % 2 = 1
    · rw [if_pos ho, Nat.mul_mod, Nat.mod_mod, ← Nat.mul_mod, ← Nat.pow_succ']
      congr 2; omega
    · rw [if_neg ho]
      congr 2; omega

/-- One prime q of Pocklington's test, by its numbers: r is a to the m, c undoes r - 1. -/
theorem pockq {n : Nat} (q m a r c : Nat) (hq : Prm q) (hb1 : m < 2 ^ 256) (hb2 : q < 2 ^ 256) (e1 : powm n 256 a m = r) (e2 : powm n 256 r q = 1) (e3 : r * c % n = (1 + c) % n) : ∀ p, Prm p → p ∣ n → q ∣ p - 1 := fun p hp hpn => by
  refine pock (m := m) (a := a) hq hp hpn ?_ ⟨c, ?_⟩
  · rw [Nat.mul_comm, Nat.pow_mul, Nat.pow_mod, ← powm_eq n 256 a m hb1, e1]
    rw [powm_eq n 256 r q hb2] at e2
    rw [← e2]
  · rw [Nat.mul_mod, ← powm_eq n 256 a m hb1, e1, Nat.mul_mod, Nat.mod_mod, ← Nat.mul_mod]
    have : r % n = r := by
      rw [← e1, powm_eq n 256 a m hb1, Nat.mod_mod]
    rw [← e3]

theorem both_dvd {a b x : Nat} (hab : Nat.gcd a b = 1) (ha : a ∣ x) (hb : b ∣ x) : a * b ∣ x := Nat.Coprime.mul_dvd_of_dvd_of_dvd hab ha hb

/-- A small prime, by looking at all lesser numbers. -/
def noDiv (n : Nat) : Nat → Bool
  | 0 => true
  | k + 1 => (n % (k + 2) != 0) && noDiv n k
theorem noDiv_spec {n : Nat} : ∀ {k : Nat}, noDiv n k = true → ∀ d, 2 ≤ d → d ≤ k + 1 → ¬ d ∣ n
  | 0, _, d, h1, h2 => by omega
  | k + 1, h, d, h1, h2 => by
    simp only [noDiv, Bool.and_eq_true, bne_iff_ne] at h
    by_cases e : d = k + 2
    · subst e
      intro hd
      exact h.1 (Nat.mod_eq_zero_of_dvd hd)
    · exact noDiv_spec h.2 d h1 (by omega)
theorem prime_small {n : Nat} (k : Nat) (h2 : 2 ≤ n) (hk : n < (k + 2) * (k + 2)) (h : noDiv n k = true) : Prm n := by
  refine ⟨h2, fun d hd => ?_⟩
  refine Classical.byContradiction fun hno => ?_
  obtain ⟨e, he⟩ := hd
  have hd0 : d ≠ 0 := by rintro rfl; rw [Nat.zero_mul] at he; omega
  have he0 : e ≠ 0 := by rintro rfl; rw [Nat.mul_zero] at he; omega
  have he1 : e ≠ 1 := by rintro rfl; rw [Nat.mul_one] at he; exact hno (Or.inr he.symm)
  have k1 : k + 2 ≤ d := by
    refine Classical.byContradiction fun hk => ?_
    exact noDiv_spec h d (by omega) (by omega) ⟨e, he⟩
  have k2 : k + 2 ≤ e := by
    refine Classical.byContradiction fun hk => ?_
    exact noDiv_spec h e (by omega) (by omega) ⟨d, by rw [Nat.mul_comm]; exact he⟩
  have := Nat.mul_le_mul k1 k2
  omega

end Go.Proofs.Ytplldbmjdnikeaa

/- The curve's two primes are prime. -/
namespace Go.Proofs.Ytplldbmjdnikeaa
set_option linter.unusedVariables false
set_option linter.unusedSimpArgs false

theorem prm_53 : Prm 53 := prime_small 7 (by decide) (by decide) (by decide +kernel)
theorem prm_29 : Prm 29 := prime_small 5 (by decide) (by decide) (by decide +kernel)
theorem prm_7 : Prm 7 := prime_small 2 (by decide) (by decide) (by decide +kernel)
theorem prm_107590001 : Prm 107590001 := by
  have h0 := pockq (n := 107590001) 53 2030000 2 26896163 75712971 prm_53 (by decide) (by decide) (by decide +kernel) (by decide +kernel) (by decide +kernel)
  have h1 := pockq (n := 107590001) 29 3710000 2 68236646 100085220 prm_29 (by decide) (by decide) (by decide +kernel) (by decide +kernel) (by decide +kernel)
  have h2 := pockq (n := 107590001) 7 15370000 2 95730224 4923006 prm_7 (by decide) (by decide) (by decide +kernel) (by decide +kernel) (by decide +kernel)
  exact prime_of (F := 53 * (29 * 7)) (by decide) (by decide) fun p hp hd => both_dvd (by decide +kernel) (h0 p hp hd) (both_dvd (by decide +kernel) (h1 p hp hd) (h2 p hp hd))
theorem prm_20113 : Prm 20113 := prime_small 141 (by decide) (by decide) (by decide +kernel)
theorem prm_1206781 : Prm 1206781 := by
  have h0 := pockq (n := 1206781) 20113 60 2 78448 709359 prm_20113 (by decide) (by decide) (by decide +kernel) (by decide +kernel) (by decide +kernel)
  exact prime_of (F := 20113) (by decide) (by decide) h0
theorem prm_7240687 : Prm 7240687 := by
  have h0 := pockq (n := 7240687) 1206781 6 2 64 5746577 prm_1206781 (by decide) (by decide) (by decide +kernel) (by decide +kernel) (by decide +kernel)
  exact prime_of (F := 1206781) (by decide) (by decide) h0
theorem prm_96557 : Prm 96557 := prime_small 310 (by decide) (by decide) (by decide +kernel)
theorem prm_255515944373312847190720520512484175977 : Prm 255515944373312847190720520512484175977 := by
  have h0 := pockq (n := 255515944373312847190720520512484175977) 107590001 2374904191824599455024826335976 2 82381214149343919061612748413412685903 235081362755335172132203715226758066727 prm_107590001 (by decide) (by decide) (by decide +kernel) (by decide +kernel) (by decide +kernel)
  have h1 := pockq (n := 255515944373312847190720520512484175977) 7240687 35288908963101546467996824129048 2 111233916942653821000329437866037388564 175544394104025381149509263364095140941 prm_7240687 (by decide) (by decide) (by decide +kernel) (by decide +kernel) (by decide +kernel)
  have h2 := pockq (n := 255515944373312847190720520512484175977) 96557 2646270538369179315748423423599368 2 47418180093458530687350227428022525796 52333299885033245219942804006191421971 prm_96557 (by decide) (by decide) (by decide +kernel) (by decide +kernel) (by decide +kernel)
  exact prime_of (F := 107590001 * (7240687 * 96557)) (by decide) (by decide) fun p hp hd => both_dvd (by decide +kernel) (h0 p hp hd) (both_dvd (by decide +kernel) (h1 p hp hd) (h2 p hp hd))
theorem prm_205115282021455665897114700593932402728804164701536103180137503955397371 : Prm 205115282021455665897114700593932402728804164701536103180137503955397371 := by
  have h0 := pockq (n := 205115282021455665897114700593932402728804164701536103180137503955397371) 255515944373312847190720520512484175977 802749442992798076634733441528810 2 53072002638256206696760401718638995221936714922431175139555783581918754 81475874003799270243122483189086420723726815346591292526890606927317739 prm_255515944373312847190720520512484175977 (by decide) (by decide) (by decide +kernel) (by decide +kernel) (by decide +kernel)
  exact prime_of (F := 255515944373312847190720520512484175977) (by decide) (by decide) h0
theorem prm_115792089237316195423570985008687907853269984665640564039457584007908834671663 : Prm 115792089237316195423570985008687907853269984665640564039457584007908834671663 := by
  have h0 := pockq (n := 115792089237316195423570985008687907853269984665640564039457584007908834671663) 205115282021455665897114700593932402728804164701536103180137503955397371 564522 2 30133174243114333125352536507925183895021889065932097717961225114769139489296 38738227534097492269493948901333532538630784921480042032654553727346127695815 prm_205115282021455665897114700593932402728804164701536103180137503955397371 (by decide) (by decide) (by decide +kernel) (by decide +kernel) (by decide +kernel)
  exact prime_of (F := 205115282021455665897114700593932402728804164701536103180137503955397371) (by decide) (by decide) h0
theorem prm_1871 : Prm 1871 := prime_small 43 (by decide) (by decide) (by decide +kernel)
theorem prm_1627771 : Prm 1627771 := by
  have h0 := pockq (n := 1627771) 1871 870 2 910796 589711 prm_1871 (by decide) (by decide) (by decide +kernel) (by decide +kernel) (by decide +kernel)
  exact prime_of (F := 1871) (by decide) (by decide) h0
theorem prm_297159362677 : Prm 297159362677 := by
  have h0 := pockq (n := 297159362677) 1627771 182556 2 114170894341 44169280672 prm_1627771 (by decide) (by decide) (by decide +kernel) (by decide +kernel) (by decide +kernel)
  exact prime_of (F := 1627771) (by decide) (by decide) h0
theorem prm_28181 : Prm 28181 := prime_small 167 (by decide) (by decide) (by decide +kernel)
theorem prm_545358713 : Prm 545358713 := by
  have h0 := pockq (n := 545358713) 28181 19352 2 420071726 160797069 prm_28181 (by decide) (by decide) (by decide +kernel) (by decide +kernel) (by decide +kernel)
  exact prime_of (F := 28181) (by decide) (by decide) h0
theorem prm_29047611873442575647497758179 : Prm 29047611873442575647497758179 := by
  have h0 := pockq (n := 29047611873442575647497758179) 297159362677 97750956294169114 2 16062460713643416818883781819 7881196461825673388358983901 prm_297159362677 (by decide) (by decide) (by decide +kernel) (by decide +kernel) (by decide +kernel)
  have h1 := pockq (n := 29047611873442575647497758179) 545358713 53263313083699784306 2 1548700731856248688196814844 9643653164146849936640551407 prm_545358713 (by decide) (by decide) (by decide +kernel) (by decide +kernel) (by decide +kernel)
  exact prime_of (F := 297159362677 * 545358713) (by decide) (by decide) fun p hp hd => both_dvd (by decide +kernel) (h0 p hp hd) (h1 p hp hd)
theorem prm_341948486974166000522343609283189 : Prm 341948486974166000522343609283189 := by
  have h0 := pockq (n := 341948486974166000522343609283189) 29047611873442575647497758179 11772 2 291782875431971620014836968593543 230912421032721991545077801069578 prm_29047611873442575647497758179 (by decide) (by decide) (by decide +kernel) (by decide +kernel) (by decide +kernel)
  exact prime_of (F := 29047611873442575647497758179) (by decide) (by decide) h0
theorem prm_9349 : Prm 9349 := prime_small 96 (by decide) (by decide) (by decide +kernel)
theorem prm_44706919 : Prm 44706919 := by
  have h0 := pockq (n := 44706919) 9349 4782 2 24793509 35850462 prm_9349 (by decide) (by decide) (by decide +kernel) (by decide +kernel) (by decide +kernel)
  exact prime_of (F := 9349) (by decide) (by decide) h0
theorem prm_120233 : Prm 120233 := prime_small 346 (by decide) (by decide) (by decide +kernel)
theorem prm_174723607534414371449 : Prm 174723607534414371449 := by
  have h0 := pockq (n := 174723607534414371449) 44706919 3908200597192 2 69188669156729060297 97513711501333925610 prm_44706919 (by decide) (by decide) (by decide +kernel) (by decide +kernel) (by decide +kernel)
  have h1 := pockq (n := 174723607534414371449) 120233 1453208416444856 2 97784642313376440036 14283963398578376782 prm_120233 (by decide) (by decide) (by decide +kernel) (by decide +kernel) (by decide +kernel)
  exact prime_of (F := 44706919 * 120233) (by decide) (by decide) fun p hp hd => both_dvd (by decide +kernel) (h0 p hp hd) (h1 p hp hd)
theorem prm_115792089237316195423570985008687907852837564279074904382605163141518161494337 : Prm 115792089237316195423570985008687907852837564279074904382605163141518161494337 := by
  have h0 := pockq (n := 115792089237316195423570985008687907852837564279074904382605163141518161494337) 341948486974166000522343609283189 338624364920977752681389262317185522840540224 2 86644313145397489891193855759928671818841495415153161568930588450251036589538 57112704531168816596589732607440886458891436705097388389849158079043094771009 prm_341948486974166000522343609283189 (by decide) (by decide) (by decide +kernel) (by decide +kernel) (by decide +kernel)
  have h1 := pockq (n := 115792089237316195423570985008687907852837564279074904382605163141518161494337) 174723607534414371449 662715765037699607481235088557493206623080876315205958464 2 58138579787377535003503259606714116115479494849592057519620557805018937774448 82825258999207434266669200773575514537865192807825383256844795767869923999078 prm_174723607534414371449 (by decide) (by decide) (by decide +kernel) (by decide +kernel) (by decide +kernel)
  exact prime_of (F := 341948486974166000522343609283189 * 174723607534414371449) (by decide) (by decide) fun p hp hd => both_dvd (by decide +kernel) (h0 p hp hd) (h1 p hp hd)

/-- The prime of the coordinates, and that of the scalars. -/
def PP : Nat := 115792089237316195423570985008687907853269984665640564039457584007908834671663
def QQ : Nat := 115792089237316195423570985008687907852837564279074904382605163141518161494337
theorem prm_PP : Prm PP := prm_115792089237316195423570985008687907853269984665640564039457584007908834671663
theorem prm_QQ : Prm QQ := prm_115792089237316195423570985008687907852837564279074904382605163141518161494337

end Go.Proofs.Ytplldbmjdnikeaa

/- The group law of y^2 = x^3 + b over the numbers mod N, where each number but 0 has an inverse and 2, 3 and b are not 0: in plain Lean. -/
namespace Go.Proofs.Ytplldbmjdnikeaa
set_option linter.unusedVariables false
set_option linter.unusedSimpArgs false

section
variable {N : Nat} [NeZero N]

-- A = (p, 0), B = (0, 0), C = (q, n q) on y^2 + 2 m x y + 2 h y = x (x - p) (x - s); D = A + B = (s, -2ms-2h), E = B + C = (t, -nt-2mt-2h).
theorem as1 (p s q t n m h k k' i j : Fin N)
   (h1 : q + t = p + s + n * n + 2 * m * n) (h2 : q * t = p * s - 2 * h * n) (h3 : k * (t - p) = - n * t - 2 * m * t - 2 * h) (ht : i * (t - p) = 1)
   (h4 : k' * (s - q) = -2 * m * s - 2 * h - n * q) (hs : j * (s - q) = 1) :
   k' * k' + 2 * m * k' + p - q = k * k + 2 * m * k + s - t := by grind -lia -linarith (ringSteps := 200000)
theorem as1y (p s q t n m h k k' i j : Fin N)
   (h1 : q + t = p + s + n * n + 2 * m * n) (h2 : q * t = p * s - 2 * h * n) (h3 : k * (t - p) = - n * t - 2 * m * t - 2 * h) (ht : i * (t - p) = 1)
   (h4 : k' * (s - q) = -2 * m * s - 2 * h - n * q) (hs : j * (s - q) = 1) :
   k * ((k * k + 2 * m * k + s - t) - p) = n * q + k' * ((k * k + 2 * m * k + s - t) - q) := by grind -lia -linarith (ringSteps := 200000)
-- A = E: the tangent at A
theorem as2 (p s q n m h k k' i j : Fin N)
   (h1 : q + p = p + s + n * n + 2 * m * n) (h2 : q * p = p * s - 2 * h * n) (h3 : 0 = - n * p - 2 * m * p - 2 * h) (hk : k * (2 * m * p + 2 * h) = 3 * p * p - 2 * (p + s) * p + p * s) (hne : i * (2 * m * p + 2 * h) = 1)
   (h4 : k' * (s - q) = -2 * m * s - 2 * h - n * q) (hs : j * (s - q) = 1) :
   k' * k' + 2 * m * k' + p - q = k * k + 2 * m * k + s - p := by grind -lia -linarith (ringSteps := 200000)
theorem as2y (p s q n m h k k' i j : Fin N)
   (h1 : q + p = p + s + n * n + 2 * m * n) (h2 : q * p = p * s - 2 * h * n) (h3 : 0 = - n * p - 2 * m * p - 2 * h) (hk : k * (2 * m * p + 2 * h) = 3 * p * p - 2 * (p + s) * p + p * s) (hne : i * (2 * m * p + 2 * h) = 1)
   (h4 : k' * (s - q) = -2 * m * s - 2 * h - n * q) (hs : j * (s - q) = 1) :
   k * ((k * k + 2 * m * k + s - p) - p) = n * q + k' * ((k * k + 2 * m * k + s - p) - q) := by grind -lia -linarith (ringSteps := 200000)

/-- Each number but 0 has an inverse. -/
def Inv (N : Nat) [NeZero N] : Prop := ∀ x : Fin N, x ≠ 0 → ∃ i, i * x = 1
theorem Inv.zero (F : Inv N) {x y : Fin N} (h : x * y = 0) (hx : x ≠ 0) : y = 0 := by
  obtain ⟨i, hi⟩ := F x hx
  grind -lia -linarith (ringSteps := 200000)

theorem as4 (F : Inv N) (p q n m h k k' i j : Fin N)
   (h1 : n * n + 2 * m * n = 0) (h2 : 2 * h * n = 0) (two : (2 : Fin N) ≠ 0) (h3 : 0 = - n * p - 2 * m * p - 2 * h) (hk : k * (2 * m * p + 2 * h) = 3 * p * p - 2 * (p + q) * p + p * q) (hne : i * (2 * m * p + 2 * h) = 1)
   (h4 : -2 * m * q - 2 * h = n * q) (hk' : k' * (2 * n * q + 2 * m * q + 2 * h) = 3 * q * q - 2 * (p + q) * q + p * q - 2 * m * (n * q)) (hne' : j * (2 * n * q + 2 * m * q + 2 * h) = 1) (one : (1 : Fin N) ≠ 0) :
   k' * k' + 2 * m * k' + p - q = k * k + 2 * m * k + q - p ∧ k * (k * k + 2 * m * k + q - p - p) = n * q + k' * (k * k + 2 * m * k + q - p - q) := by
  by_cases n0 : n = 0
  · subst n0
    exact absurd (by grind -lia -linarith (ringSteps := 200000) : (1 : Fin N) = 0) one
  · have h0 : h = 0 := F.zero (x := 2) (F.zero (x := n) (by grind -lia -linarith (ringSteps := 200000)) n0) two
    subst h0
    have n2 : n + 2 * m = 0 := F.zero (x := n) (by grind -lia -linarith (ringSteps := 200000)) n0
    obtain rfl : n = -2 * m := by grind -lia -linarith (ringSteps := 200000)
    have hp : p ≠ 0 := fun e => by subst e; exact one (by grind -lia -linarith (ringSteps := 200000))
    have hq : q ≠ 0 := fun e => by subst e; exact one (by grind -lia -linarith (ringSteps := 200000))
    have hm : m ≠ 0 := fun e => by subst e; exact one (by grind -lia -linarith (ringSteps := 200000))
    have e1 : k * (2 * m) - (p - q) = 0 := F.zero (x := p) (by grind -lia -linarith (ringSteps := 200000)) hp
    have e2 : m * 2 * (k' - (k - 2 * m)) = 0 := F.zero (x := q) (by grind -lia -linarith (ringSteps := 200000)) hq
    have e3 : k' - (k - 2 * m) = 0 := F.zero (x := 2) (F.zero (x := m) (by grind -lia -linarith (ringSteps := 200000)) hm) two
    obtain rfl : k' = k - 2 * m := by grind -lia -linarith (ringSteps := 200000)
    constructor <;> grind -lia -linarith (ringSteps := 200000)

/-- A point: at infinity, or of the plane. -/
inductive Pt (N : Nat)
  | inf
  | aff (x y : Fin N)

def Pt.on (b : Fin N) : Pt N → Prop
  | .inf => True
  | .aff x y => y * y = x * x * x + b
def Pt.neg : Pt N → Pt N
  | .inf => .inf
  | .aff x y => .aff x (-y)

/-- m is the slope of the line through two points; of the tangent, where they are one. -/
def Lin (m x1 y1 x2 y2 : Fin N) : Prop := (x1 ≠ x2 ∧ m * (x2 - x1) = y2 - y1) ∨ (x1 = x2 ∧ y1 = y2 ∧ y1 ≠ 0 ∧ 2 * y1 * m = 3 * x1 * x1)
theorem Lin.symm {m x1 y1 x2 y2 : Fin N} (h : Lin m x1 y1 x2 y2) : Lin m x2 y2 x1 y1 := by
  rcases h with ⟨h1, h2⟩ | ⟨rfl, rfl, h3, h4⟩
  · exact Or.inl ⟨fun e => h1 e.symm, by grind -lia -linarith (ringSteps := 200000)⟩
  · exact Or.inr ⟨rfl, rfl, h3, h4⟩
theorem Lin.other {m x1 y1 x2 y2 : Fin N} (h : Lin m x1 y1 x2 y2) : y2 = y1 + m * (x2 - x1) := by
  rcases h with ⟨h1, h2⟩ | ⟨rfl, rfl, h3, h4⟩ <;> grind -lia -linarith (ringSteps := 200000)
theorem Inv.cancel (F : Inv N) {d x y : Fin N} (hd : d ≠ 0) (h : d * x = d * y) : x = y := by
  have := F.zero (x := d) (y := x - y) (by grind -lia -linarith (ringSteps := 200000)) hd
  grind -lia -linarith (ringSteps := 200000)
theorem sub_sub_ne {x y z : Fin N} (h : x ≠ y) : (x - z) - (y - z) ≠ 0 := fun e => h (by grind -lia -linarith (ringSteps := 200000))
theorem sub_ne {x y : Fin N} (h : x ≠ y) : x - y ≠ 0 := fun e => h (by grind -lia -linarith (ringSteps := 200000))

/-- The line meets the curve a third time. -/
theorem Lin.prod {b m x1 y1 x2 y2 : Fin N} (F : Inv N) (h : Lin m x1 y1 x2 y2) (o1 : y1 * y1 = x1 * x1 * x1 + b) (o2 : y2 * y2 = x2 * x2 * x2 + b) :
    (x1 - x2) * (m * m - x1 - x2 - x2) = 3 * x2 * x2 - 2 * y2 * m := by
  rcases h with ⟨h1, h2⟩ | ⟨rfl, rfl, h3, h4⟩
  · refine F.cancel (sub_ne h1) ?_
    have hy : y1 = y2 + m * (x1 - x2) := by grind -lia -linarith (ringSteps := 200000)
    subst hy
    clear h2
    grind -lia -linarith (ringSteps := 200000)
  · grind -lia -linarith (ringSteps := 200000)
theorem Lin.vert {m x1 y1 x2 y2 : Fin N} (F : Inv N) (two : (2 : Fin N) ≠ 0) (h : Lin m x1 y1 x2 y2) : ¬ (x1 = x2 ∧ y1 = -y2) := by
  rintro ⟨rfl, e⟩
  rcases h with ⟨h1, _⟩ | ⟨_, rfl, h3, _⟩
  · exact h1 rfl
  · exact h3 (F.zero (x := 2) (by grind -lia -linarith (ringSteps := 200000)) two)
theorem Lin.unique {m m' x1 y1 x2 y2 : Fin N} (F : Inv N) (two : (2 : Fin N) ≠ 0) (h : Lin m x1 y1 x2 y2) (h' : Lin m' x1 y1 x2 y2) : m = m' := by
  rcases h with ⟨h1, h2⟩ | ⟨rfl, rfl, h3, h4⟩
  · rcases h' with ⟨_, h2'⟩ | ⟨e, _⟩
    · exact F.cancel (sub_ne h1) (by grind -lia -linarith (ringSteps := 200000))
    · exact absurd e h1
  · rcases h' with ⟨h1', _⟩ | ⟨_, _, _, h4'⟩
    · exact absurd rfl h1'
    · exact F.cancel h3 (F.cancel two (by grind -lia -linarith (ringSteps := 200000)))
theorem Lin.of_on {b x1 y1 x2 y2 : Fin N} (F : Inv N) (two : (2 : Fin N) ≠ 0) (o1 : y1 * y1 = x1 * x1 * x1 + b) (o2 : y2 * y2 = x2 * x2 * x2 + b) : (x1 = x2 ∧ y1 = -y2) ∨ ∃ m, Lin m x1 y1 x2 y2 := by
  by_cases hx : x1 = x2
  · subst hx
    by_cases hy : y1 = -y2
    · exact Or.inl ⟨rfl, hy⟩
    · have h2 : y1 + y2 ≠ 0 := fun e => hy (by grind -lia -linarith (ringSteps := 200000))
      have h3 := F.zero (x := y1 + y2) (y := y1 - y2) (by grind -lia -linarith (ringSteps := 200000)) h2
      obtain rfl : y1 = y2 := by grind -lia -linarith (ringSteps := 200000)
      have h4 : y1 ≠ 0 := fun e => h2 (by rw [e]; grind -lia -linarith (ringSteps := 200000))
      obtain ⟨i, hi⟩ := F _ h4
      obtain ⟨j, hj⟩ := F _ two
      exact Or.inr ⟨3 * x1 * x1 * i * j, Or.inr ⟨rfl, rfl, h4, by grind -lia -linarith (ringSteps := 200000)⟩⟩
  · obtain ⟨i, hi⟩ := F _ (sub_ne (fun e => hx e.symm) : x2 - x1 ≠ 0)
    exact Or.inr ⟨(y2 - y1) * i, Or.inl ⟨hx, by grind -lia -linarith (ringSteps := 200000)⟩⟩

open Classical in
/-- The sum of two points. -/
noncomputable def addP : Pt N → Pt N → Pt N
  | .inf, Q => Q
  | .aff x y, .inf => .aff x y
  | .aff x1 y1, .aff x2 y2 => if h : ∃ m, Lin m x1 y1 x2 y2 then .aff (h.choose * h.choose - x1 - x2) (h.choose * (x1 - (h.choose * h.choose - x1 - x2)) - y1) else .inf

theorem add_lin {m x1 y1 x2 y2 : Fin N} (F : Inv N) (two : (2 : Fin N) ≠ 0) (h : Lin m x1 y1 x2 y2) : addP (.aff x1 y1) (.aff x2 y2) = .aff (m * m - x1 - x2) (m * (x1 - (m * m - x1 - x2)) - y1) := by
  have hex : ∃ m, Lin m x1 y1 x2 y2 := ⟨m, h⟩
  have hu := Lin.unique F two hex.choose_spec h
  simp only [addP, dif_pos hex, hu]
theorem add_vert {x1 y1 x2 y2 : Fin N} (F : Inv N) (two : (2 : Fin N) ≠ 0) (h : x1 = x2 ∧ y1 = -y2) : addP (.aff x1 y1) (.aff x2 y2) = .inf := by
  have hno : ¬ ∃ m, Lin m x1 y1 x2 y2 := fun ⟨m, hm⟩ => hm.vert F two h
  simp only [addP, dif_neg hno]
theorem add_inf (P : Pt N) : addP P .inf = P := by cases P <;> rfl
theorem inf_add (P : Pt N) : addP .inf P = P := by cases P <;> rfl

theorem fneg (y : Fin N) : - -y = y := by grind -lia -linarith (ringSteps := 200000)
theorem neg_neg (P : Pt N) : P.neg.neg = P := by
  cases P
  · rfl
  · simp only [Pt.neg]; congr 1; grind -lia -linarith (ringSteps := 200000)
theorem on_neg {b : Fin N} {P : Pt N} (h : P.on b) : P.neg.on b := by
  cases P
  · exact h
  · simp only [Pt.neg, Pt.on] at h ⊢; grind -lia -linarith (ringSteps := 200000)

theorem add_comm' {b : Fin N} (F : Inv N) (two : (2 : Fin N) ≠ 0) {P Q : Pt N} (hP : P.on b) (hQ : Q.on b) : addP P Q = addP Q P := by
  cases P with
  | inf => rw [inf_add, add_inf]
  | aff x1 y1 =>
    cases Q with
    | inf => rw [inf_add, add_inf]
    | aff x2 y2 =>
      rcases Lin.of_on F two hP hQ with h | ⟨m, h⟩
      · rw [add_vert F two h, add_vert F two ⟨h.1.symm, by grind -lia -linarith (ringSteps := 200000)⟩]
      · rw [add_lin F two h, add_lin F two h.symm]
        have := h.other
        congr 1 <;> grind -lia -linarith (ringSteps := 200000)

theorem on_add {b : Fin N} (F : Inv N) (two : (2 : Fin N) ≠ 0) {P Q : Pt N} (hP : P.on b) (hQ : Q.on b) : (addP P Q).on b := by
  cases P with
  | inf => rw [inf_add]; exact hQ
  | aff x1 y1 =>
    cases Q with
    | inf => rw [add_inf]; exact hP
    | aff x2 y2 =>
      rcases Lin.of_on F two hP hQ with h | ⟨m, h⟩
      · rw [add_vert F two h]; trivial
      · rw [add_lin F two h]
        have h1 := h.prod F hP hQ
        have h2 := h.other
        simp only [Pt.on] at hP hQ ⊢
        grind -lia -linarith (ringSteps := 200000)

theorem add_neg {b : Fin N} (F : Inv N) (two : (2 : Fin N) ≠ 0) {P : Pt N} (hP : P.on b) : addP P P.neg = .inf := by
  cases P with
  | inf => rfl
  | aff x y => exact add_vert F two ⟨rfl, by grind -lia -linarith (ringSteps := 200000)⟩

theorem Lin.neg {m x1 y1 x2 y2 : Fin N} (h : Lin m x1 y1 x2 y2) : Lin (-m) x1 (-y1) x2 (-y2) := by
  rcases h with ⟨h1, h2⟩ | ⟨rfl, rfl, h3, h4⟩
  · exact Or.inl ⟨h1, by grind -lia -linarith (ringSteps := 200000)⟩
  · exact Or.inr ⟨rfl, rfl, fun e => h3 (by grind -lia -linarith (ringSteps := 200000)), by grind -lia -linarith (ringSteps := 200000)⟩
theorem neg_add {b : Fin N} (F : Inv N) (two : (2 : Fin N) ≠ 0) {P Q : Pt N} (hP : P.on b) (hQ : Q.on b) : (addP P Q).neg = addP P.neg Q.neg := by
  cases P with
  | inf => rw [inf_add]; simp only [Pt.neg]; rw [inf_add]
  | aff x1 y1 =>
    cases Q with
    | inf => rw [add_inf]; simp only [Pt.neg]; rw [add_inf]
    | aff x2 y2 =>
      rcases Lin.of_on F two hP hQ with h | ⟨m, h⟩
      · rw [add_vert F two h]; simp only [Pt.neg]; rw [add_vert F two ⟨h.1, by grind -lia -linarith (ringSteps := 200000)⟩]
      · rw [add_lin F two h]; simp only [Pt.neg]; rw [add_lin F two h.neg]
        congr 1 <;> grind -lia -linarith (ringSteps := 200000)

/-- -P + (P + Q) is Q. -/
theorem add_cancel {b : Fin N} (F : Inv N) (two : (2 : Fin N) ≠ 0) (three : (3 : Fin N) ≠ 0) (hb : b ≠ 0) {P Q : Pt N} (hP : P.on b) (hQ : Q.on b) : addP P.neg (addP P Q) = Q := by
  cases P with
  | inf => rw [inf_add]; simp only [Pt.neg]; rw [inf_add]
  | aff x1 y1 =>
    cases Q with
    | inf =>
      rw [add_inf]
      have := add_neg F two (on_neg hP)
      rw [neg_neg] at this
      exact this
    | aff x2 y2 =>
      rcases Lin.of_on F two hP hQ with h | ⟨m, h⟩
      · rw [add_vert F two h, add_inf]; simp only [Pt.neg]
        obtain ⟨rfl, e⟩ := h
        congr 1; grind -lia -linarith (ringSteps := 200000)
      · rw [add_lin F two h]; simp only [Pt.neg]
        have hp := h.symm.prod F hQ hP
        have ho := h.other
        simp only [Pt.on] at hP hQ
        have hL : Lin (-m) x1 (-y1) (m * m - x1 - x2) (m * (x1 - (m * m - x1 - x2)) - y1) := by
          by_cases hx : x1 = m * m - x1 - x2
          · refine Or.inr ⟨hx, ?_, ?_, ?_⟩
            · grind -lia -linarith (ringSteps := 200000)
            · intro e
              have hy : y1 = 0 := by clear hp ho hP hQ h hx; grind -lia -linarith (ringSteps := 200000)
              have hz : m * m - x2 - x1 - x1 = 0 := by clear hp ho hP hQ h e hy; grind -lia -linarith (ringSteps := 200000)
              rw [hz, hy] at hp
              have h1 : 3 * (x1 * x1) = 0 := by clear ho hP hQ h e hy hz hx; grind -lia -linarith (ringSteps := 200000)
              have h3 := F.zero h1 three
              have h2 : x1 = 0 := Classical.byContradiction fun hn => hn (F.zero h3 hn)
              rw [hy, h2] at hP
              exact hb (by clear hp ho hQ h e hy hz hx h1 h3 h2; grind -lia -linarith (ringSteps := 200000))
            · grind -lia -linarith (ringSteps := 200000)
          · exact Or.inl ⟨hx, by grind -lia -linarith (ringSteps := 200000)⟩
        rw [add_lin F two hL]
        congr 1 <;> grind -lia -linarith (ringSteps := 200000)

theorem sh1 {x1 x2 x3 x4 x5 m n : Fin N} (e4 : x4 = m * m - x1 - x2) (e5 : x5 = n * n - x2 - x3) : (x3 - x2) + (x5 - x2) = (x1 - x2) + (x4 - x2) + (n - m) * (n - m) + 2 * m * (n - m) := by
  subst e4; subst e5; grind -lia -linarith (ringSteps := 200000)
theorem sh2 {x1 x2 x3 x4 x5 y2 m n : Fin N} (p1 : (x1 - x2) * (x4 - x2) = 3 * x2 * x2 - 2 * y2 * m) (p2 : (x3 - x2) * (x5 - x2) = 3 * x2 * x2 - 2 * y2 * n) : (x3 - x2) * (x5 - x2) = (x1 - x2) * (x4 - x2) - 2 * y2 * (n - m) := by
  rw [p1, p2]; grind -lia -linarith (ringSteps := 200000)
theorem sh3 {x1 x2 x5 y1 y2 y5 m n k : Fin N} (h : k * (x5 - x1) = y5 - y1) (o1 : y1 = y2 + m * (x1 - x2)) (o5 : y5 = -y2 - n * (x5 - x2)) : (k - m) * ((x5 - x2) - (x1 - x2)) = -(n - m) * (x5 - x2) - 2 * m * (x5 - x2) - 2 * y2 := by
  subst o1; subst o5; grind -lia -linarith (ringSteps := 200000)
theorem sh4 {x2 x3 x4 y2 y3 y4 m n k : Fin N} (h : k * (x3 - x4) = y3 - y4) (o3 : y3 = y2 + n * (x3 - x2)) (o4 : y4 = -y2 - m * (x4 - x2)) : (k - m) * ((x4 - x2) - (x3 - x2)) = -2 * m * (x4 - x2) - 2 * y2 - (n - m) * (x3 - x2) := by
  subst o3; subst o4; grind -lia -linarith (ringSteps := 200000)
theorem shx {x1 x2 x3 x4 x5 m k k' : Fin N} (e4 : x4 = m * m - x1 - x2) (r : (k' - m) * (k' - m) + 2 * m * (k' - m) + (x1 - x2) - (x3 - x2) = (k - m) * (k - m) + 2 * m * (k - m) + (x4 - x2) - (x5 - x2)) : k' * k' - x4 - x3 = k * k - x1 - x5 := by
  subst e4; grind -lia -linarith (ringSteps := 200000)
theorem shy {x1 x2 x3 x4 x5 y1 y2 y3 y4 m n k k' X : Fin N} (e4 : x4 = m * m - x1 - x2) (o1 : y1 = y2 + m * (x1 - x2)) (o3 : y3 = y2 + n * (x3 - x2)) (hD : k' * (x3 - x4) = y3 - y4) (hX : X = k * k - x1 - x5)
    (r : (k - m) * (((k - m) * (k - m) + 2 * m * (k - m) + (x4 - x2) - (x5 - x2)) - (x1 - x2)) = (n - m) * (x3 - x2) + (k' - m) * (((k - m) * (k - m) + 2 * m * (k - m) + (x4 - x2) - (x5 - x2)) - (x3 - x2))) :
    k' * (x4 - X) - y4 = k * (x1 - X) - y1 := by
  have e : (k - m) * (k - m) + 2 * m * (k - m) + (x4 - x2) - (x5 - x2) = X - x2 := by subst e4; subst hX; grind -lia -linarith (ringSteps := 200000)
  rw [e] at r
  have : y4 = y3 - k' * (x3 - x4) := by clear r e hX e4 o1 o3; grind -lia -linarith (ringSteps := 200000)
  subst this
  clear hD hX e e4
  subst o1; subst o3
  grind -lia -linarith (ringSteps := 200000)
theorem fo (x1 x2 x4 y1 y2 y4 m : Fin N) (o1 : y1 = y2 + m * (x1 - x2)) (f4 : y4 = m * (x1 - x4) - y1) : y4 = -y2 - m * (x4 - x2) := by
  subst o1; subst f4; grind -lia -linarith (ringSteps := 200000)
/-- The tangent at A, told in the moved numbers. -/
theorem sht {x1 x2 x4 y1 y2 m k : Fin N} (d : 2 * y1 * k = 3 * x1 * x1) (o1 : y1 = y2 + m * (x1 - x2)) (p1 : (x2 - x1) * (x4 - x1) = 3 * x1 * x1 - 2 * y1 * m) :
    (k - m) * (2 * m * (x1 - x2) + 2 * y2) = 3 * (x1 - x2) * (x1 - x2) - 2 * ((x1 - x2) + (x4 - x2)) * (x1 - x2) + (x1 - x2) * (x4 - x2) := by
  have e : 2 * m * (x1 - x2) + 2 * y2 = 2 * y1 := by subst o1; grind -lia -linarith (ringSteps := 200000)
  rw [e]
  have e2 : 3 * (x1 - x2) * (x1 - x2) - 2 * ((x1 - x2) + (x4 - x2)) * (x1 - x2) + (x1 - x2) * (x4 - x2) = (x2 - x1) * (x4 - x1) := by grind -lia -linarith (ringSteps := 200000)
  rw [e2, p1]
  clear e e2 p1 o1
  grind -lia -linarith (ringSteps := 200000)

/-- The heart: no sum on the way is at infinity; the lines through A and E, and through D and C, are no tangents at once. -/
theorem assoc_line1 {b : Fin N} (F : Inv N) (two : (2 : Fin N) ≠ 0) {x1 y1 x2 y2 x3 y3 x4 y4 x5 y5 m n k k' : Fin N} (hA : y1 * y1 = x1 * x1 * x1 + b) (hB : y2 * y2 = x2 * x2 * x2 + b) (hC : y3 * y3 = x3 * x3 * x3 + b)
    (l1 : Lin m x1 y1 x2 y2) (l2 : Lin n x2 y2 x3 y3) (e4 : x4 = m * m - x1 - x2) (f4 : y4 = m * (x1 - x4) - y1) (e5 : x5 = n * n - x2 - x3) (f5 : y5 = n * (x2 - x5) - y2)
    (l3 : Lin k x1 y1 x5 y5) (n4 : x4 ≠ x3) (t4 : k' * (x3 - x4) = y3 - y4) : k' * k' - x4 - x3 = k * k - x1 - x5 ∧ k' * (x4 - (k' * k' - x4 - x3)) - y4 = k * (x1 - (k * k - x1 - x5)) - y1 := by
  have pr1 := l1.prod F hA hB
  have pr1' := l1.symm.prod F hB hA
  have pr2 := l2.symm.prod F hC hB
  have o1 := l1.symm.other
  have o3 := l2.other
  have o4 := fo x1 x2 x4 y1 y2 y4 m o1 f4
  have o5 : y5 = -y2 - n * (x5 - x2) := by subst f5; clear e4 e5 f4 pr1 pr1' pr2 o1 o3 o4 t4 hA hB hC; grind -lia -linarith (ringSteps := 200000)
  have q1 : (x1 - x2) * (x4 - x2) = 3 * x2 * x2 - 2 * y2 * m := by rw [← pr1, e4]
  have q1' : (x2 - x1) * (x4 - x1) = 3 * x1 * x1 - 2 * y1 * m := by rw [← pr1', e4]; congr 1; grind -lia -linarith (ringSteps := 200000)
  have q2 : (x3 - x2) * (x5 - x2) = 3 * x2 * x2 - 2 * y2 * n := by rw [← pr2, e5]; congr 1; grind -lia -linarith (ringSteps := 200000)
  have s1 := sh1 e4 e5
  have s2 := sh2 q1 q2
  have s4 := sh4 t4 o3 o4
  obtain ⟨j, hj⟩ := F _ (sub_sub_ne (z := x2) n4)
  rcases l3 with ⟨n3, t3⟩ | ⟨n3, t3, z3, d3⟩
  · have s3 := sh3 t3 o1 o5
    obtain ⟨i, hi⟩ := F _ (sub_sub_ne (z := x2) (fun e => n3 e.symm : x5 ≠ x1))
    have r1 := as1 _ _ _ _ _ _ _ _ _ i j s1 s2 s3 hi s4 hj
    have r2 := as1y _ _ _ _ _ _ _ _ _ i j s1 s2 s3 hi s4 hj
    have rx := shx e4 r1
    refine ⟨rx, ?_⟩
    rw [rx]
    exact shy e4 o1 o3 t4 rfl r2
  · subst n3
    have s3 : 0 = -(n - m) * (x1 - x2) - 2 * m * (x1 - x2) - 2 * y2 := by
      rw [t3] at o1
      clear s1 s2 s4 q1 q1' q2 pr1 pr1' pr2 d3 e4 e5 f4 f5 t4 hA hB hC o3 o4 hj
      grind -lia -linarith (ringSteps := 200000)
    have st := sht d3 o1 q1'
    have z : 2 * m * (x1 - x2) + 2 * y2 ≠ 0 := fun e => z3 (F.zero (x := 2) (by rw [o1]; clear s1 s2 s4 s3 st q1 q1' q2 pr1 pr1' pr2 d3 e4 e5 f4 f5 t4 hA hB hC o3 o4 hj; grind -lia -linarith (ringSteps := 200000)) two)
    obtain ⟨i, hi⟩ := F _ z
    have r1 := as2 _ _ _ _ _ _ _ _ i j s1 s2 s3 st hi s4 hj
    have r2 := as2y _ _ _ _ _ _ _ _ i j s1 s2 s3 st hi s4 hj
    have rx := shx e4 r1
    refine ⟨rx, ?_⟩
    rw [rx]
    exact shy e4 o1 o3 t4 rfl r2

theorem line_y {m x1 y1 x2 y2 X : Fin N} (h : y2 = y1 + m * (x2 - x1)) : m * (x2 - X) - y2 = m * (x1 - X) - y1 := by subst h; grind -lia -linarith (ringSteps := 200000)
theorem sub_swap (a c d : Fin N) : a - c - d = a - d - c := by grind -lia -linarith (ringSteps := 200000)
theorem flip {k a c d e : Fin N} (h : k * (a - c) = d - e) : k * (c - a) = e - d := by grind -lia -linarith (ringSteps := 200000)
theorem shc {x1 x2 x3 x4 y2 y3 m n k : Fin N} (e4 : x4 = m * m - x1 - x2) (q1 : (x1 - x2) * (x4 - x2) = 3 * x2 * x2 - 2 * y2 * m) (o3 : y3 = y2 + n * (x3 - x2)) (d : 2 * y3 * k = 3 * x3 * x3) :
    (k - m) * (2 * (n - m) * (x3 - x2) + 2 * m * (x3 - x2) + 2 * y2) = 3 * (x3 - x2) * (x3 - x2) - 2 * ((x1 - x2) + (x4 - x2)) * (x3 - x2) + (x1 - x2) * (x4 - x2) - 2 * m * ((n - m) * (x3 - x2)) := by
  rw [q1]
  have e : 2 * (n - m) * (x3 - x2) + 2 * m * (x3 - x2) + 2 * y2 = 2 * y3 := by subst o3; clear d q1 e4; grind -lia -linarith (ringSteps := 200000)
  rw [e]
  have e2 : (k - m) * (2 * y3) = 3 * x3 * x3 - 2 * y3 * m := by rw [← d]; grind -lia -linarith (ringSteps := 200000)
  rw [e2]
  have e3 : (x1 - x2) + (x4 - x2) = m * m - 3 * x2 := by subst e4; clear e e2 d q1 o3; grind -lia -linarith (ringSteps := 200000)
  rw [e3]
  subst o3
  clear e e2 e3 q1 d e4
  grind -lia -linarith (ringSteps := 200000)
theorem a41 {p q c d : Fin N} (h : q + p = p + q + c + d) : c + d = 0 := by grind -lia -linarith (ringSteps := 200000)
theorem a42 {p q c : Fin N} (h : q * p = p * q - c) : c = 0 := by grind -lia -linarith (ringSteps := 200000)
theorem a43 {p h m n y : Fin N} (o1 : y = h + m * p) (o5 : y = -h - n * p) : 0 = -(n - m) * p - 2 * m * p - 2 * h := by subst o1; grind -lia -linarith (ringSteps := 200000)
theorem a44 {q h m n y : Fin N} (o3 : y = h + n * q) (o4 : y = -h - m * q) : -2 * m * q - 2 * h = (n - m) * q := by subst o3; grind -lia -linarith (ringSteps := 200000)
theorem a45 {p h m y : Fin N} (o1 : y = h + m * p) : 2 * m * p + 2 * h = 2 * y := by subst o1; grind -lia -linarith (ringSteps := 200000)
theorem a46 {q h m n y : Fin N} (o3 : y = h + n * q) : 2 * (n - m) * q + 2 * m * q + 2 * h = 2 * y := by subst o3; grind -lia -linarith (ringSteps := 200000)
theorem a47 {k a c : Fin N} : k * (a - a) = c - c := by grind -lia -linarith (ringSteps := 200000)

/-- The heart: no sum on the way is at infinity. -/
theorem assoc_line {b : Fin N} (F : Inv N) (two : (2 : Fin N) ≠ 0) (one : (1 : Fin N) ≠ 0) {x1 y1 x2 y2 x3 y3 x4 y4 x5 y5 m n k k' : Fin N} (hA : y1 * y1 = x1 * x1 * x1 + b) (hB : y2 * y2 = x2 * x2 * x2 + b) (hC : y3 * y3 = x3 * x3 * x3 + b)
    (l1 : Lin m x1 y1 x2 y2) (l2 : Lin n x2 y2 x3 y3) (e4 : x4 = m * m - x1 - x2) (f4 : y4 = m * (x1 - x4) - y1) (e5 : x5 = n * n - x2 - x3) (f5 : y5 = n * (x2 - x5) - y2)
    (l3 : Lin k x1 y1 x5 y5) (l4 : Lin k' x4 y4 x3 y3) : k' * k' - x4 - x3 = k * k - x1 - x5 ∧ k' * (x4 - (k' * k' - x4 - x3)) - y4 = k * (x1 - (k * k - x1 - x5)) - y1 := by
  rcases l4 with ⟨n4, t4⟩ | ⟨n4, t4, z4, d4⟩
  · exact assoc_line1 F two hA hB hC l1 l2 e4 f4 e5 f5 l3 n4 t4
  · have l4 : Lin k' x4 y4 x3 y3 := Or.inr ⟨n4, t4, z4, d4⟩
    rcases l3 with ⟨n3, t3⟩ | ⟨n3, t3, z3, d3⟩
    · have l3 : Lin k x1 y1 x5 y5 := Or.inl ⟨n3, t3⟩
      have f5' : y5 = n * (x3 - x5) - y3 := by rw [f5]; exact (line_y l2.other).symm
      have f4' : y4 = m * (x2 - x4) - y2 := by rw [f4]; exact (line_y l1.other).symm
      obtain ⟨r1, r2⟩ := assoc_line1 F two (k := k') (k' := k) hC hB hA l2.symm l1.symm (e5.trans (sub_swap _ _ _)) f5' (e4.trans (sub_swap _ _ _)) f4' l4.symm (fun e => n3 e.symm) (flip t3)
      have r3 : k' * k' - x4 - x3 = k * k - x1 - x5 := by rw [sub_swap, ← r1, sub_swap]
      refine ⟨r3, ?_⟩
      rw [r3]
      rw [r1, sub_swap, r3] at r2
      rw [← line_y l4.other, ← r2, line_y l3.other]
    · have pr1 := l1.prod F hA hB
      have pr1' := l1.symm.prod F hB hA
      have pr2 := l2.symm.prod F hC hB
      have o1 := l1.symm.other
      have o3 := l2.other
      have o4 := fo x1 x2 x4 y1 y2 y4 m o1 f4
      have o5 : y5 = -y2 - n * (x5 - x2) := by subst f5; clear e4 e5 f4 pr1 pr1' pr2 o1 o3 o4 t4 hA hB hC n4 n3 t3 d3 d4; grind -lia -linarith (ringSteps := 200000)
      have q1 : (x1 - x2) * (x4 - x2) = 3 * x2 * x2 - 2 * y2 * m := by rw [← pr1, e4]
      have q1' : (x2 - x1) * (x4 - x1) = 3 * x1 * x1 - 2 * y1 * m := by rw [← pr1', e4]; congr 1; grind -lia -linarith (ringSteps := 200000)
      have q2 : (x3 - x2) * (x5 - x2) = 3 * x2 * x2 - 2 * y2 * n := by rw [← pr2, e5]; congr 1; grind -lia -linarith (ringSteps := 200000)
      have s1 := sh1 e4 e5
      have s2 := sh2 q1 q2
      have st := sht d3 o1 q1'
      rw [t4, n4] at d4
      have sc := shc e4 q1 o3 d4
      subst t3; subst t4; subst n3; subst n4
      have z1 : 2 * m * (x1 - x2) + 2 * y2 ≠ 0 := fun e => z3 (F.zero ((a45 o1).symm.trans e) two)
      have z2 : 2 * (n - m) * (x4 - x2) + 2 * m * (x4 - x2) + 2 * y2 ≠ 0 := fun e => z4 (F.zero ((a46 o3).symm.trans e) two)
      obtain ⟨i, hi⟩ := F _ z1
      obtain ⟨j, hj⟩ := F _ z2
      obtain ⟨r1, r2⟩ := as4 F _ _ _ _ _ _ _ i j (a41 s1) (a42 s2) two (a43 o1 o5) st hi (a44 o3 o4) sc hj one
      have rx := shx e4 r1
      refine ⟨rx, ?_⟩
      rw [rx]
      exact shy e4 o1 o3 a47 rfl r2

/-- The sum is the same however it is grouped. -/
theorem add_assoc' {b : Fin N} (F : Inv N) (two : (2 : Fin N) ≠ 0) (three : (3 : Fin N) ≠ 0) (one : (1 : Fin N) ≠ 0) (hb : b ≠ 0) {P Q R : Pt N} (hP : P.on b) (hQ : Q.on b) (hR : R.on b) : addP (addP P Q) R = addP P (addP Q R) := by
  cases P with
  | inf => rw [inf_add, inf_add]
  | aff x1 y1 =>
  cases Q with
  | inf => rw [add_inf, inf_add]
  | aff x2 y2 =>
  cases R with
  | inf => rw [add_inf, add_inf]
  | aff x3 y3 =>
  have hAn := on_neg hP; have hBn := on_neg hQ; have hCn := on_neg hR
  rcases Lin.of_on F two hP hQ with h | ⟨m, l1⟩
  · rw [add_vert F two h, inf_add]
    have hc := add_cancel F two three hb hQ hR
    have : (Pt.aff x1 y1 : Pt N) = (Pt.aff x2 y2).neg := by simp only [Pt.neg]; rw [h.1, h.2]
    rw [this, hc]
  · rcases Lin.of_on F two hQ hR with h | ⟨n, l2⟩
    · rw [add_vert F two h, add_inf]
      have hc := add_cancel F two three hb hQ hP
      have : (Pt.aff x3 y3 : Pt N) = (Pt.aff x2 y2).neg := by simp only [Pt.neg]; rw [h.1, h.2, fneg]
      rw [this, add_comm' F two (on_add F two hP hQ) hBn, add_comm' F two hP hQ, hc]
    · have hD := on_add F two hP hQ
      have hE := on_add F two hQ hR
      have cD := neg_add F two hP hQ
      have cE := neg_add F two hQ hR
      have k1 := add_cancel F two three hb hBn hCn
      have k2 := add_cancel F two three hb hBn hAn
      rw [neg_neg] at k1 k2
      obtain ⟨x4, hx4⟩ : ∃ x4, x4 = m * m - x1 - x2 := ⟨_, rfl⟩
      obtain ⟨y4, hy4⟩ : ∃ y4, y4 = m * (x1 - x4) - y1 := ⟨_, rfl⟩
      obtain ⟨x5, hx5⟩ : ∃ x5, x5 = n * n - x2 - x3 := ⟨_, rfl⟩
      obtain ⟨y5, hy5⟩ : ∃ y5, y5 = n * (x2 - x5) - y2 := ⟨_, rfl⟩
      have eD : addP (.aff x1 y1) (.aff x2 y2) = .aff x4 y4 := by rw [add_lin F two l1, ← hx4, ← hy4]
      have eE : addP (.aff x2 y2) (.aff x3 y3) = .aff x5 y5 := by rw [add_lin F two l2, ← hx5, ← hy5]
      rw [eD] at hD cD ⊢
      rw [eE] at hE cE ⊢
      rcases Lin.of_on F two hP hE with h3 | ⟨k, l3⟩
      · rw [add_vert F two h3]
        have e1 : (Pt.aff x1 y1 : Pt N) = (Pt.aff x5 y5).neg := by simp only [Pt.neg]; rw [h3.1, h3.2]
        have e2 : (Pt.aff x4 y4 : Pt N) = (Pt.aff x3 y3).neg := by
          rw [← eD, e1, cE, add_comm' F two (on_add F two hBn hCn) hQ]; exact k1
        rw [e2, add_comm' F two hCn hR, add_neg F two hR]
      · rcases Lin.of_on F two hD hR with h4 | ⟨k', l4⟩
        · rw [add_vert F two h4]
          have e1 : (Pt.aff x3 y3 : Pt N) = (Pt.aff x4 y4).neg := by simp only [Pt.neg]; rw [h4.1, h4.2, fneg]
          have e2 : (Pt.aff x5 y5 : Pt N) = (Pt.aff x1 y1).neg := by
            rw [← eE, e1, cD, add_comm' F two hAn hBn]; exact k2
          rw [e2, add_neg F two hP]
        · rw [add_lin F two l3, add_lin F two l4]
          obtain ⟨r1, r2⟩ := assoc_line F two one hP hQ hR l1 l2 hx4 hy4 hx5 hy5 l3 l4
          rw [r1] at r2 ⊢
          rw [r2]

end

end Go.Proofs.Ytplldbmjdnikeaa

/- Mod a prime each number but 0 has an inverse. -/
namespace Go.Proofs.Ytplldbmjdnikeaa
set_option linter.unusedVariables false
set_option linter.unusedSimpArgs false

theorem inv_of_prm {p : Nat} [NeZero p] (h : Prm p) : Inv p := by
  intro x hx
  have hp := h.1
  have hv : x.val ≠ 0 := fun e => hx (Fin.ext (by rw [e]; rfl))
  have hd : ¬ p ∣ x.val := fun hd => by
    have := Nat.le_of_dvd (by omega) hd
    have := x.isLt
    omega
  have hf := fermat h hd
  refine ⟨⟨x.val ^ (p - 2) % p, Nat.mod_lt _ (by omega)⟩, ?_⟩
  apply Fin.ext
  rw [Fin.val_mul]
  show x.val ^ (p - 2) % p * x.val % p = (1 : Fin p).val
  rw [Nat.mod_mul_mod, ← Nat.pow_succ, show (p - 2).succ = p - 1 by omega, hf]
  show 1 = 1 % p
  rw [Nat.mod_eq_of_lt (by omega)]

instance : NeZero PP := ⟨by decide⟩
instance : NeZero QQ := ⟨by decide⟩
theorem inv_PP : Inv PP := inv_of_prm prm_PP
theorem inv_QQ : Inv QQ := inv_of_prm prm_QQ
theorem one_PP : (1 : Fin PP) ≠ 0 := by decide +kernel
theorem two_PP : (2 : Fin PP) ≠ 0 := by decide +kernel
theorem three_PP : (3 : Fin PP) ≠ 0 := by decide +kernel
theorem seven_PP : (7 : Fin PP) ≠ 0 := by decide +kernel

/-- The curve's points and their sum. -/
abbrev Pc := Pt PP
theorem curve_assoc {P Q R : Pc} (hP : P.on 7) (hQ : Q.on 7) (hR : R.on 7) : addP (addP P Q) R = addP P (addP Q R) := add_assoc' inv_PP two_PP three_PP one_PP seven_PP hP hQ hR
theorem curve_comm {P Q : Pc} (hP : P.on 7) (hQ : Q.on 7) : addP P Q = addP Q P := add_comm' inv_PP two_PP hP hQ
theorem curve_on {P Q : Pc} (hP : P.on 7) (hQ : Q.on 7) : (addP P Q).on 7 := on_add inv_PP two_PP hP hQ

end Go.Proofs.Ytplldbmjdnikeaa

/- No point of the curve is its own negative: -7 is no cube. -/
namespace Go.Proofs.Ytplldbmjdnikeaa
set_option linter.unusedVariables false
set_option linter.unusedSimpArgs false

theorem no_cube (x : Nat) : x * x * x % PP ≠ PP - 7 := by
  intro h
  have hd : ¬ PP ∣ x := by
    intro hd
    have : PP ∣ x * x * x := Nat.dvd_trans hd (Nat.dvd_mul_left x (x * x))
    rw [Nat.mod_eq_zero_of_dvd this] at h
    exact absurd h (by decide)
  have hf := fermat prm_PP hd
  obtain ⟨m, hm⟩ : ∃ m, m = (PP - 1) / 3 := ⟨_, rfl⟩
  have e : PP - 1 = 3 * m := by rw [hm]; decide +kernel
  have hx3 : x * x * x = x ^ 3 := by rw [Nat.pow_succ, Nat.pow_two]
  rw [e, Nat.pow_mul, ← hx3, Nat.pow_mod, h] at hf
  have hb : m < 2 ^ 256 := by rw [hm]; decide +kernel
  rw [← powm_eq PP 256 (PP - 7) m hb, hm] at hf
  exact absurd hf (by decide +kernel)

end Go.Proofs.Ytplldbmjdnikeaa
