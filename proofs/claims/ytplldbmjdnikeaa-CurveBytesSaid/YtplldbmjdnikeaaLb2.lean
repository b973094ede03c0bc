import Derived.Test.YtplldbmjdnikeaaLb1

/- Numbers of eight limbs (api.Wide), limbs as a sum. -/
namespace Go.Proofs.Ytplldbmjdnikeaa
set_option linter.unusedVariables false
set_option linter.unusedSimpArgs false
open Go.RowKit

/-- Eight cells of limbs. -/
def limbs8 (x : Nat → Nat) : Array Value := #[.int .u64 (x 0 : Nat), .int .u64 (x 1 : Nat), .int .u64 (x 2 : Nat), .int .u64 (x 3 : Nat), .int .u64 (x 4 : Nat), .int .u64 (x 5 : Nat), .int .u64 (x 6 : Nat), .int .u64 (x 7 : Nat)]
/-- Block b holds these eight limbs. -/
def U8 (w : World) (b : Nat) (t : TypeId) (x : Nat → Nat) : Prop := w.heap[b]? = some (.cells (limbs8 x) t (0, 0))
theorem lt8 {k : Nat} (hk : k < 8) : k = 0 ∨ k = 1 ∨ k = 2 ∨ k = 3 ∨ k = 4 ∨ k = 5 ∨ k = 6 ∨ k = 7 := by omega
theorem U8.cell {w : World} {b : Nat} {t : TypeId} {x : Nat → Nat} (h : U8 w b t x) {k : Nat} (hk : k < 8) : w.cell? ⟨b, k, none⟩ = some (.int .u64 (x k : Nat)) := by
  rw [cell_of_has h]
  rcases lt8 hk with rfl | rfl | rfl | rfl | rfl | rfl | rfl | rfl <;> rfl
theorem U8.fz {w : World} {b : Nat} {t : TypeId} {x : Nat → Nat} (h : U8 w b t x) (k : Nat) : w.frozen? ⟨b, k, none⟩ = false := frozen_of_has h k
theorem U8.chg {S : List Nat} {w w' : World} {b : Nat} {t : TypeId} {x : Nat → Nat} (h : U8 w b t x) (hc : Chg S w w') (hs : b ∉ S) : U8 w' b t x := hc.has h hs
theorem U8.lt {w : World} {b : Nat} {t : TypeId} {x : Nat → Nat} (h : U8 w b t x) : b < w.heap.size := lt_of_has h
theorem U8.same {w : World} {b : Nat} {t : TypeId} {x y : Nat → Nat} (h : U8 w b t x) (e : ∀ k, k < 8 → x k = y k) : U8 w b t y := by
  unfold U8 limbs8 at h ⊢
  rw [h, e 0 (by omega), e 1 (by omega), e 2 (by omega), e 3 (by omega), e 4 (by omega), e 5 (by omega), e 6 (by omega), e 7 (by omega)]

/-- The limbs with one of them set. -/
def upd (x : Nat → Nat) (k v : Nat) : Nat → Nat := fun i => if i = k then v else x i
theorem upd_at (x : Nat → Nat) (k v : Nat) : upd x k v k = v := by simp [upd]
theorem upd_ne (x : Nat → Nat) {k i : Nat} (v : Nat) (h : i ≠ k) : upd x k v i = x i := by simp [upd, h]
theorem U8.set {w : World} {b : Nat} {t : TypeId} {x : Nat → Nat} (h : U8 w b t x) {k : Nat} (hk : k < 8) (v : Nat) : U8 (w.setCell ⟨b, k, none⟩ (.int .u64 (v : Nat))) b t (upd x k v) := by
  have hs := has_set h k (.int .u64 (v : Nat))
  rcases lt8 hk with rfl | rfl | rfl | rfl | rfl | rfl | rfl | rfl <;> exact hs

/-- Eight stores. -/
def put8 (w : World) (b : Nat) (y : Nat → Nat) : World := (((((((w.setCell ⟨b, 0, none⟩ (.int .u64 (y 0 : Nat))).setCell ⟨b, 1, none⟩ (.int .u64 (y 1 : Nat))).setCell ⟨b, 2, none⟩ (.int .u64 (y 2 : Nat))).setCell ⟨b, 3, none⟩ (.int .u64 (y 3 : Nat))).setCell ⟨b, 4, none⟩ (.int .u64 (y 4 : Nat))).setCell ⟨b, 5, none⟩ (.int .u64 (y 5 : Nat))).setCell ⟨b, 6, none⟩ (.int .u64 (y 6 : Nat))).setCell ⟨b, 7, none⟩ (.int .u64 (y 7 : Nat))
theorem U8.put {w : World} {b : Nat} {t : TypeId} {x : Nat → Nat} (h : U8 w b t x) (y : Nat → Nat) : U8 (put8 w b y) b t y :=
  ((((((((h.set (k := 0) (by omega) (y 0)).set (k := 1) (by omega) (y 1)).set (k := 2) (by omega) (y 2)).set (k := 3) (by omega) (y 3)).set (k := 4) (by omega) (y 4)).set (k := 5) (by omega) (y 5)).set (k := 6) (by omega) (y 6)).set (k := 7) (by omega) (y 7)).same (fun k hk => by
    rcases lt8 hk with rfl | rfl | rfl | rfl | rfl | rfl | rfl | rfl <;> rfl)
theorem Chg.put8 {S : List Nat} {a w : World} (h : Chg S a w) {b : Nat} (hb : b ∈ S ∨ a.heap.size ≤ b) (y : Nat → Nat) : Chg S a (Go.Proofs.Ytplldbmjdnikeaa.put8 w b y) :=
  (((((((h.setCell hb _).setCell hb _).setCell hb _).setCell hb _).setCell hb _).setCell hb _).setCell hb _).setCell hb _

/-- What n limbs stand for. -/
def val : Nat → (Nat → Nat) → Nat
  | 0, _ => 0
  | n + 1, o => val n o + o n * B6 ^ n
theorem val_same : ∀ (n : Nat) {o p : Nat → Nat}, (∀ k, k < n → o k = p k) → val n o = val n p
  | 0, _, _, _ => rfl
  | n + 1, o, p, h => by
    unfold val
    rw [val_same n (fun k hk => h k (by omega)), h n (by omega)]
theorem val_upd : ∀ (n : Nat) (o : Nat → Nat) (k v : Nat), k < n → val n (upd o k v) + o k * B6 ^ k = val n o + v * B6 ^ k
  | 0, _, _, _, h => by omega
  | n + 1, o, k, v, h => by
    unfold val
    by_cases e : k = n
    · subst e
      rw [val_same k (p := o) (fun j hj => upd_ne o v (by omega)), upd_at]
      omega
    · rw [upd_ne o v (Ne.symm e)]
      have := val_upd n o k v (by omega)
      omega
theorem val_lt : ∀ (n : Nat) (o : Nat → Nat), (∀ k, k < n → o k < B6) → val n o < B6 ^ n
  | 0, _, _ => Nat.one_pos
  | n + 1, o, h => by
    unfold val
    have h1 := val_lt n o (fun k hk => h k (by omega))
    have h2 : o n * B6 ^ n + B6 ^ n ≤ B6 * B6 ^ n := by
      have : (o n + 1) * B6 ^ n ≤ B6 * B6 ^ n := Nat.mul_le_mul_right _ (h n (by omega))
      rw [Nat.succ_mul] at this
      exact this
    rw [Nat.pow_succ, Nat.mul_comm (B6 ^ n) B6]
    omega
theorem lm_val : ∀ (n : Nat) (o : Nat → Nat), (∀ k, k < n → o k < B6) → ∀ k, k < n → lm (val n o) k = o k
  | 0, _, _, _, h => by omega
  | n + 1, o, h, k, hk => by
    have h1 := val_lt n o (fun k hk => h k (by omega))
    have hp : 0 < B6 ^ n := Nat.pow_pos (by decide)
    unfold val lm
    by_cases e : k = n
    · subst e
      rw [Nat.add_mul_div_right _ _ hp, Nat.div_eq_of_lt h1, Nat.zero_add, Nat.mod_eq_of_lt (h k (by omega))]
    · have ih := lm_val n o (fun k hk => h k (by omega)) k (by omega)
      unfold lm at ih
      obtain ⟨j, hj⟩ : ∃ j, n = k + 1 + j := ⟨n - (k + 1), by omega⟩
      have e2 : o n * B6 ^ n = (o n * B6 ^ j * B6) * B6 ^ k := by
        rw [hj, Nat.pow_add, Nat.pow_succ]
        simp only [Nat.mul_assoc, Nat.mul_comm, Nat.mul_left_comm]
      rw [e2, Nat.add_mul_div_right _ _ (Nat.pow_pos (by decide)), Nat.add_mul_mod_self_right]
      exact ih
theorem val_lm : ∀ (n a : Nat), val n (lm a) = a % B6 ^ n
  | 0, a => by simp [val, Nat.mod_one]
  | n + 1, a => by
    unfold val
    rw [val_lm n a, mod_succ, Nat.mul_comm]
theorem val_lm' {n a : Nat} (h : a < B6 ^ n) : val n (lm a) = a := by rw [val_lm, Nat.mod_eq_of_lt h]
theorem val_low {o : Nat → Nat} {n : Nat} (m : Nat) (h : ∀ k, n ≤ k → k < n + m → o k = 0) : val (n + m) o = val n o := by
  induction m with
  | zero => rfl
  | succ m ih =>
    show val (n + m) o + o (n + m) * B6 ^ (n + m) = val n o
    rw [ih (fun k h1 h2 => h k h1 (by omega)), h (n + m) (by omega) (by omega), Nat.zero_mul, Nat.add_zero]

/-- A number of 512 bits, by its limbs. -/
def wid (a : Nat) : Array Value := limbs8 (lm a)

/-- One step: x y and what is there and what is carried fit into two limbs. -/
theorem step_fits {x y o c : Nat} (hx : x < B6) (hy : y < B6) (ho : o < B6) (hc : c < B6) : x * y + o + c < B6 * B6 := by
  have : x * y ≤ (B6 - 1) * (B6 - 1) := Nat.mul_le_mul (by omega) (by omega)
  simp only [B6] at *
  omega
/-- The step's two limbs, as they are reckoned. -/
theorem step_limbs {x y o c : Nat} (hx : x < B6) (hy : y < B6) (ho : o < B6) (hc : c < B6) :
    (x * y % 18446744073709551616 + o + 0) % 18446744073709551616 < B6 ∧
    (((x * y % 18446744073709551616 + o + 0) % 18446744073709551616) + c + 0) % 18446744073709551616 = (x * y + o + c) % B6 ∧
    x * y / 18446744073709551616 + (x * y % 18446744073709551616 + o + 0) / 18446744073709551616 + (((x * y % 18446744073709551616 + o + 0) % 18446744073709551616) + c + 0) / 18446744073709551616 = (x * y + o + c) / B6 ∧
    (x * y + o + c) / B6 < B6 := by
  have h := step_fits hx hy ho hc
  refine ⟨Nat.mod_lt _ (by decide), ?_, ?_, Nat.div_lt_of_lt_mul h⟩
  all_goals simp only [B6] at *; omega

/-- One step of a product, as the program reckons it: named. -/
theorem mstep {x y u c : Nat} (hx : x < 18446744073709551616) (hy : y < 18446744073709551616) (hu : u < 18446744073709551616) (hc : c < 18446744073709551616) :
    ∃ hi lo s1 k1 h1 k2 c2 v2 : Nat, x * y / 18446744073709551616 = hi ∧ x * y % 18446744073709551616 = lo ∧
      (∀ w : World, (callFunc 95 #[.int .u64 (lo : Nat), .int .u64 (u : Nat), .int .u64 0]).run Try.prog w = .ok (.value (.tuple #[.int .u64 (s1 : Nat), .int .u64 (k1 : Nat)])) w) ∧
      (∀ w : World, (callFunc 95 #[.int .u64 (s1 : Nat), .int .u64 (c : Nat), .int .u64 0]).run Try.prog w = .ok (.value (.tuple #[.int .u64 (v2 : Nat), .int .u64 (k2 : Nat)])) w) ∧
      IntKind.u64.wrap ((hi : Int) + k1) = (h1 : Nat) ∧ IntKind.u64.wrap ((h1 : Int) + k2) = (c2 : Nat) ∧ c2 = (x * y + u + c) / B6 ∧ v2 = (x * y + u + c) % B6 ∧ v2 < 18446744073709551616 := by
  have hl := step_limbs (x := x) (y := y) (o := u) (c := c) hx hy hu hc
  obtain ⟨l1, l2, l3, l4⟩ := hl
  have hdv : x * y / 18446744073709551616 < 18446744073709551616 := Nat.div_lt_of_lt_mul (by
    have : x * y ≤ 18446744073709551615 * 18446744073709551615 := Nat.mul_le_mul (by omega) (by omega)
    omega)
  refine ⟨_, _, _, _, _, _, _, _, rfl, rfl, fun w => add64 _ u 0 (by omega) w, fun w => add64 _ c 0 (by omega) w, IntWalk.u64_in _ ?_, ?_, rfl, l2, ?_⟩
  · refine ⟨by omega, ?_⟩
    have : x * y / 18446744073709551616 + (x * y % 18446744073709551616 + u + 0) / 18446744073709551616 < B6 := by omega
    simp only [B6] at this
    omega
  · refine (IntWalk.u64_in _ ?_).trans ?_
    · have : x * y / 18446744073709551616 + (x * y % 18446744073709551616 + u + 0) / 18446744073709551616 + (((x * y % 18446744073709551616 + u + 0) % 18446744073709551616) + c + 0) / 18446744073709551616 < B6 := by omega
      simp only [B6] at this
      omega
    · rw [← l3]; omega
  · exact Nat.mod_lt _ (by decide)

set_option maxRecDepth 100000 in
/-- An element of a number that lies in a slot. -/
theorem idx4 (x : Nat → Nat) (k : Nat) (hk : k < 4) (w : World) : Sem.run Try.prog (Instr.index 24 (.agg #[.int .u64 (x 0 : Nat), .int .u64 (x 1 : Nat), .int .u64 (x 2 : Nat), .int .u64 (x 3 : Nat)]) (.int .i64 (k : Nat))) w = .ok (.int .u64 (x k : Nat)) w := by
  have : k = 0 ∨ k = 1 ∨ k = 2 ∨ k = 3 := by omega
  rcases this with rfl | rfl | rfl | rfl <;> rfl
end Go.Proofs.Ytplldbmjdnikeaa

/- The walk of limb.Mul. -/
namespace Go.Proofs.Ytplldbmjdnikeaa
set_option linter.unusedVariables false
set_option linter.unusedSimpArgs false
open Go.RowKit

/-- The product ahead of round i. -/
def MI (a b i : Nat) (o : Nat → Nat) : Prop := (∀ k, k < 8 → o k < B6) ∧ val 8 o = a % B6 ^ i * b ∧ ∀ k, i + 4 ≤ k → k < 8 → o k = 0
/-- The product in round i ahead of the inner round j, with what is carried. -/
def MJ (a b i j c : Nat) (o : Nat → Nat) : Prop := (∀ k, k < 8 → o k < B6) ∧ c < B6 ∧ val 8 o + c * B6 ^ (i + j) = a % B6 ^ i * b + lm a i * (b % B6 ^ j) * B6 ^ i ∧ ∀ k, i + 4 ≤ k → k < 8 → o k = 0
theorem MI.start {a b i : Nat} {o : Nat → Nat} (h : MI a b i o) : MJ a b i 0 0 o := ⟨h.1, by decide, by rw [h.2.1]; simp [Nat.mod_one], h.2.2⟩
theorem upd_lt {o : Nat → Nat} {n v : Nat} (h : ∀ k, k < n → o k < B6) (hv : v < B6) (j : Nat) : ∀ k, k < n → upd o j v k < B6 := by
  intro k hk
  unfold upd
  split
  · exact hv
  · exact h k hk
theorem MJ.step {a b i j c : Nat} {o : Nat → Nat} (h : MJ a b i j c o) (hi : i < 4) (hj : j < 4) :
    MJ a b i (j + 1) ((lm a i * lm b j + o (i + j) + c) / B6) (upd o (i + j) ((lm a i * lm b j + o (i + j) + c) % B6)) := by
  obtain ⟨h1, h2, h3, h4⟩ := h
  obtain ⟨n, hn⟩ : ∃ n, i + j = n := ⟨_, rfl⟩
  have hn8 : n < 8 := by omega
  have hs := step_limbs (lm_lt a i) (lm_lt b j) (h1 n hn8) h2
  rw [hn] at h3 ⊢
  refine ⟨upd_lt h1 (Nat.mod_lt _ (by decide)) _, hs.2.2.2, ?_, fun k hk hk8 => by rw [upd_ne _ _ (by omega)]; exact h4 k hk hk8⟩
  have hu := val_upd 8 o n ((lm a i * lm b j + o n + c) % B6) hn8
  have hdm := Nat.div_add_mod (lm a i * lm b j + o n + c) B6
  rw [mod_succ b j, show i + (j + 1) = n + 1 by omega, Nat.pow_succ]
  generalize hT : lm a i * lm b j + o n + c = T at *
  have e1 : T / B6 * (B6 ^ n * B6) + T % B6 * B6 ^ n = T * B6 ^ n := by
    rw [← hdm]; simp only [Nat.add_mul, Nat.mul_comm, Nat.mul_left_comm, Nat.mul_assoc]
    have : (B6 * (T / B6) + T % B6) / B6 = T / B6 := by rw [hdm]
    have h7 : (B6 * (T / B6) + T % B6) % B6 = T % B6 := by rw [hdm]
    rw [this, h7]
  have e2 : lm a i * (b % B6 ^ j + B6 ^ j * lm b j) * B6 ^ i = lm a i * (b % B6 ^ j) * B6 ^ i + lm a i * lm b j * B6 ^ n := by
    rw [← hn, Nat.pow_add, Nat.mul_add, Nat.add_mul]
    congr 1
    simp only [Nat.mul_comm, Nat.mul_left_comm, Nat.mul_assoc]
  have e3 : T * B6 ^ n = lm a i * lm b j * B6 ^ n + o n * B6 ^ n + c * B6 ^ n := by rw [← hT, Nat.add_mul, Nat.add_mul]
  rw [e2]
  omega
theorem MJ.close {a b i c : Nat} {o : Nat → Nat} (h : MJ a b i 4 c o) (hb : b < B6 ^ 4) (hi : i < 4) : MI a b (i + 1) (upd o (i + 4) c) := by
  obtain ⟨h1, h2, h3, h4⟩ := h
  refine ⟨upd_lt h1 h2 _, ?_, fun k hk hk8 => by rw [upd_ne _ _ (by omega)]; exact h4 k (by omega) hk8⟩
  have hu := val_upd 8 o (i + 4) c (by omega)
  rw [h4 (i + 4) (by omega) (by omega)] at hu
  rw [Nat.mod_eq_of_lt hb] at h3
  rw [mod_succ, Nat.add_mul]
  have : lm a i * b * B6 ^ i = B6 ^ i * lm a i * b := by simp only [Nat.mul_comm, Nat.mul_left_comm, Nat.mul_assoc]
  omega
theorem MI.ends {a b : Nat} {o : Nat → Nat} (h : MI a b 4 o) (ha : a < B6 ^ 4) : ∀ k, k < 8 → o k = lm (a * b) k := by
  intro k hk
  have h2 := h.2.1
  rw [Nat.mod_eq_of_lt ha] at h2
  rw [← h2, lm_val 8 o h.1 k hk]
theorem MI.zero (a b : Nat) : MI a b 0 (fun _ => 0) := ⟨fun _ _ => (by decide : 0 < B6), by simp [val, Nat.mod_one], fun _ _ _ => rfl⟩

set_option maxRecDepth 100000 in
set_option maxHeartbeats 2000000 in
theorem limb_mul (a b : Nat) (ha : a < B6 ^ 4) (hb : b < B6 ^ 4) (w : World) : Calls Try.prog 83 #[.agg (num a), .agg (num b)] w fun e w' =>
    e = .returned (.agg (wid (a * b))) ∧ Chg [] w w' := by
  unfold num limbs
  obtain ⟨T, hT⟩ : ∃ T, a * b = T := ⟨_, rfl⟩
  rw [hT]
  have HA := Lib.hid ha; have HB := Lib.hid hb; have HT := Lib.hid hT
  clear ha hb hT
  obtain ⟨W0, hW0⟩ : ∃ W0, (((w.alloc (.cells (limbs (lm a)) 24)).alloc (.cells (limbs (lm b)) 24)).alloc (.cells (limbs8 fun _ => 0) 90)).alloc (.cells (limbs8 fun _ => 0) 90) = W0 := ⟨_, rfl⟩
  have uA : U4 W0 w.heap.size 24 (lm a) := by rw [← hW0]; exact has_alloc (has_alloc (has_alloc (has_alloc_new _ _)))
  have uB : U4 W0 (w.heap.size + 1) 24 (lm b) := by rw [← hW0]; exact has_alloc (has_alloc (has_alloc_at (by simp)))
  have uR : U8 W0 (w.heap.size + 1 + 1) 90 (fun _ => 0) := by rw [← hW0]; exact has_alloc (has_alloc_at (by simp))
  have uO : U8 W0 (w.heap.size + 1 + 1 + 1) 90 (fun _ => 0) := by rw [← hW0]; exact has_alloc_at (by simp)
  have hC0 : Chg [] w W0 := by rw [← hW0]; exact ((((Chg.refl _ _).alloc _).alloc _).alloc _).alloc _
  obtain ⟨a0, a1, a2, a3⟩ := four4 fun _ => uA.cell
  have UB := Lib.hid uB; have UR := Lib.hid uR; have UO := Lib.hid uO; have HC0 := Lib.hid hC0
  unfold limbs limbs8 at hW0
  clear uA uB uR uO hC0
  go_enter Try.func83, Try.ntmps83
  go_wp2_with fail
  rw [show (((w.alloc (.cells #[.int .u64 (lm a 0 : Nat), .int .u64 (lm a 1 : Nat), .int .u64 (lm a 2 : Nat), .int .u64 (lm a 3 : Nat)] 24)).alloc (.cells #[.int .u64 (lm b 0 : Nat), .int .u64 (lm b 1 : Nat), .int .u64 (lm b 2 : Nat), .int .u64 (lm b 3 : Nat)] 24)).alloc (.cells #[.int .u64 0, .int .u64 0, .int .u64 0, .int .u64 0, .int .u64 0, .int .u64 0, .int .u64 0, .int .u64 0] 90)).alloc (.cells #[.int .u64 0, .int .u64 0, .int .u64 0, .int .u64 0, .int .u64 0, .int .u64 0, .int .u64 0, .int .u64 0] 90) = W0 from hW0]
  clear hW0 a0 a1 a2 a3
  obtain ⟨P, hP⟩ : ∃ P, w.heap.size = P := ⟨_, rfl⟩
  rw [hP] at UB UR UO ⊢
  go_loopg [15] 4 (fun gk i wr => ∃ (k : Nat) (o : Nat → Nat), gk + k = 4 ∧ i = .int .i64 k ∧ U8 wr (P + 1 + 1 + 1) 90 o ∧ Hid (MI a b k o) ∧ Chg [P + 1 + 1 + 1] W0 wr)
  case atStart => exact ⟨0, _, by omega, rfl, UO.out, Lib.hid (MI.zero a b), Chg.refl _ _⟩
  case round =>
    obtain ⟨k, o, hk, rfl, hO, hM, hC⟩ := hrel
    have HC := Lib.hid hC; have HO := Lib.hid hO
    clear hC hO
    by_cases hlt : k < 4
    · have vB := UB.out.chg HC.out (by simp; try omega)
      obtain ⟨b0, b1, b2, b3⟩ := four4 fun _ => vB.cell
      clear vB
      have ix := fun w => idx4 (lm a) k hlt w
      go_wp2_with fail
      have hkt : decide ((k : Int) < 4) = true := by simp; omega
      rw [hkt]
      clear hkt
      go_loopg [8, 20] 4 (fun gj c j wq => ∃ (n m : Nat) (p : Nat → Nat), gj + n = 4 ∧ j = .int .i64 n ∧ c = .int .u64 m ∧ U8 wq (P + 1 + 1 + 1) 90 p ∧ Hid (MJ a b k n m p) ∧ Chg [P + 1 + 1 + 1] W0 wq)
      case atStart => exact ⟨0, 0, o, by omega, rfl, rfl, HO.out, Lib.hid hM.out.start, HC.out⟩
      case round =>
        obtain ⟨j, c, p, hj, rfl, rfl, hP', hN, hC'⟩ := hrel
        have HC' := Lib.hid hC'; have HP' := Lib.hid hP'
        clear hC' hP' b0 b1 b2 b3 HO HC hM
        by_cases hlj : j < 4
        · obtain ⟨n, hn⟩ : ∃ n, k + j = n := ⟨_, rfl⟩
          have hn8 : n < 8 := by omega
          have wn : IntKind.i64.wrap ((k : Int) + j) = (n : Nat) := by rw [IntWalk.i64_in _ (by omega)]; omega
          have cO := HP'.out.cell hn8
          have zO := HP'.out.fz n
          have hll := HP'.out.lt
          have hst := hN.out.step hlt hlj
          rw [hn] at hst
          have hx := lm_lt a k
          have hy := lm_lt b j
          have hu : p n < 18446744073709551616 := hN.out.1 n hn8
          have hcb : c < 18446744073709551616 := hN.out.2.1
          obtain ⟨hi, lo, s1, k1, h1, k2, c2, v2, e1, e2, add1, add2, g1, g2, e3, e4, hv2⟩ := mstep hx hy hu hcb
          rw [← e3, ← e4] at hst
          have HS := Lib.hid hst
          have hmul := fun w => bits_mul64 (lm a k) (lm b j) hx hy w
          rw [e1, e2] at hmul
          have HM := Lib.hid hmul
          clear hst hmul e1 e2 e3 e4 hx hy hu hcb ix
          have HN := Lib.hid hn
          clear hn
          have iy := fun w => idx4 (lm b) j hlj w
          go_wp2_with fail
          refine (HM.out _).mono ?_
          rintro e w1 ⟨rfl, rfl⟩
          go_wp2_with fail
          go_roundg (4 - (j + 1))
          case measure => omega
          case rel => exact ⟨j + 1, c2, upd p n v2, by omega, by go_num, rfl, HP'.out.set hn8 v2, HS, by
            repeat (with_reducible first | exact HC'.out | refine Chg.setCell ?_ (Or.inl (by simp)) _ | apply Chg.drew | apply Chg.drewN)⟩
        · obtain rfl : j = 4 := by omega
          obtain ⟨n, hn⟩ : ∃ n, k + 4 = n := ⟨_, rfl⟩
          have hn8 : n < 8 := by omega
          have wn : IntKind.i64.wrap ((k : Int) + 4) = (n : Nat) := by rw [IntWalk.i64_in _ (by omega)]; omega
          have zO := HP'.out.fz n
          have cO := HP'.out.cell hn8
          have hll := HP'.out.lt
          have hcl := hN.out.close HB.out hlt
          rw [hn] at hcl
          have HS := Lib.hid hcl
          clear hcl hn ix
          go_wp2_with fail
          go_roundg (4 - (k + 1))
          case measure => omega
          case rel => exact ⟨k + 1, upd p n c, by omega, by go_num, HP'.out.set hn8 c, HS, by
            repeat (with_reducible first | exact HC'.out | refine Chg.setCell ?_ (Or.inl (by simp)) _ | apply Chg.drew | apply Chg.drewN)⟩
    · obtain rfl : k = 4 := by omega
      have hO8 := HO.out.same (y := lm (a * b)) (hM.out.ends HA.out)
      have hR8 := UR.out.chg HC.out (by simp)
      rw [HT.out] at hO8
      have o0 := hO8.cell (k := 0) (by omega); have o1 := hO8.cell (k := 1) (by omega); have o2 := hO8.cell (k := 2) (by omega); have o3 := hO8.cell (k := 3) (by omega)
      have o4 := hO8.cell (k := 4) (by omega); have o5 := hO8.cell (k := 5) (by omega); have o6 := hO8.cell (k := 6) (by omega); have o7 := hO8.cell (k := 7) (by omega)
      have r0 := hR8.cell (k := 0) (by omega); have r1 := hR8.cell (k := 1) (by omega); have r2 := hR8.cell (k := 2) (by omega); have r3 := hR8.cell (k := 3) (by omega)
      have r4 := hR8.cell (k := 4) (by omega); have r5 := hR8.cell (k := 5) (by omega); have r6 := hR8.cell (k := 6) (by omega); have r7 := hR8.cell (k := 7) (by omega)
      have z0 := hR8.fz 0; have z1 := hR8.fz 1; have z2 := hR8.fz 2; have z3 := hR8.fz 3; have z4 := hR8.fz 4; have z5 := hR8.fz 5; have z6 := hR8.fz 6; have z7 := hR8.fz 7
      have hCW := HC0.out.trans_new HC.out (by simp; omega)
      have hll := hR8.lt
      have HF := Lib.hid (hR8.put (lm T)); have HCF := Lib.hid (hCW.put8 (b := P + 1 + 1) (Or.inr (by omega)) (lm T))
      clear hO8 hR8 hCW hM
      go_wp2_with fail
      have hF := HF.out
      have hCF := HCF.out
      refine (id ?_ : bodyPost _ _ _ _ _ (put8 wr (P + 1 + 1) (lm T)))
      clear HF HCF
      generalize put8 wr (P + 1 + 1) (lm T) = W5 at *
      have g0 := hF.cell (k := 0) (by omega); have g1 := hF.cell (k := 1) (by omega); have g2 := hF.cell (k := 2) (by omega); have g3 := hF.cell (k := 3) (by omega)
      have g4 := hF.cell (k := 4) (by omega); have g5 := hF.cell (k := 5) (by omega); have g6 := hF.cell (k := 6) (by omega); have g7 := hF.cell (k := 7) (by omega)
      exact bodyPost_ret (v := .agg (wid T)) (by simp [results, Try.results83, go_sem, wid, limbs8, g0, g1, g2, g3, g4, g5, g6, g7]) rfl ⟨rfl, hCF⟩

end Go.Proofs.Ytplldbmjdnikeaa

/- Montgomery's step: the plain law and the walk of limb.Mont.reduce. -/
namespace Go.Proofs.Ytplldbmjdnikeaa
set_option linter.unusedVariables false
set_option linter.unusedSimpArgs false
open Go.RowKit

theorem wrap_mul (x y : Nat) : IntKind.u64.wrap ((x : Int) * y) = ((x * y % 18446744073709551616 : Nat) : Int) := by
  rw [IntKind.wrap_u64, ← Int.natCast_mul, Int.natCast_emod]; rfl

/-- The modulus' inverse less its sign. -/
def Minv (m v : Nat) : Prop := v < B6 ∧ m * v % B6 = B6 - 1
/-- Ahead of round i. -/
def RI (m W i top : Nat) (o : Nat → Nat) : Prop := (∀ k, k < 8 → o k < B6) ∧ (∀ k, k < i → o k = 0) ∧ ∃ s, s < B6 ^ i ∧ val 8 o + top * B6 ^ 8 = W + s * m
/-- In round i ahead of the inner round j. -/
def RJ (m v W i j c top q : Nat) (o : Nat → Nat) : Prop := (∀ k, k < 8 → o k < B6) ∧ c < B6 ∧ (∀ k, k < i → o k = 0) ∧ (0 < j → o i = 0) ∧ (j = 0 → o i * v % B6 = q ∧ c = 0) ∧ q < B6 ∧
  ∃ s, s < B6 ^ i ∧ val 8 o + c * B6 ^ (i + j) + top * B6 ^ 8 = W + s * m + q * (m % B6 ^ j) * B6 ^ i
/-- In round i, the carry at limb j. -/
def RK (m W i j c top : Nat) (o : Nat → Nat) : Prop := (∀ k, k < 8 → o k < B6) ∧ c < B6 ∧ (∀ k, k < i + 1 → o k = 0) ∧
  ∃ s, s < B6 ^ (i + 1) ∧ val 8 o + c * B6 ^ j + top * B6 ^ 8 = W + s * m

theorem RI.start {m v W i top : Nat} {o : Nat → Nat} (h : RI m W i top o) : RJ m v W i 0 0 top (o i * v % B6) o := by
  obtain ⟨h1, h2, s, h3, h4⟩ := h
  exact ⟨h1, by decide, h2, by omega, fun _ => ⟨rfl, rfl⟩, Nat.mod_lt _ (by decide), s, h3, by simp only [Nat.pow_zero, Nat.mod_one]; omega⟩
theorem first_zero {m v u : Nat} (hv : Minv m v) : (u * v % B6 * lm m 0 + u + 0) % B6 = 0 := by
  have e : lm m 0 = m % B6 := by unfold lm; simp
  have h : (u * v % B6 * lm m 0 + u + 0) % B6 = (u * (m * v % B6) + u) % B6 := by
    rw [e, Nat.add_zero, Nat.add_mod, Nat.add_mod (u * (m * v % B6))]
    congr 2
    rw [Nat.mul_mod, Nat.mod_mod, Nat.mod_mod, ← Nat.mul_mod, Nat.mul_mod_mod]
    congr 1
    simp only [Nat.mul_comm, Nat.mul_left_comm]
  rw [h, hv.2]
  have : u * (B6 - 1) + u = B6 * u := by
    have : B6 - 1 + 1 = B6 := rfl
    rw [← Nat.mul_succ, Nat.succ_eq_add_one, this, Nat.mul_comm]
  rw [this, Nat.mul_mod_right]
theorem RJ.step {m v W i j c top q : Nat} {o : Nat → Nat} (h : RJ m v W i j c top q o) (hv : Minv m v) (hi : i < 4) (hj : j < 4) :
    RJ m v W i (j + 1) ((q * lm m j + o (i + j) + c) / B6) top q (upd o (i + j) ((q * lm m j + o (i + j) + c) % B6)) := by
  obtain ⟨h1, h2, h3, h4, h5, h6, s, h7, h8⟩ := h
  obtain ⟨n, hn⟩ : ∃ n, i + j = n := ⟨_, rfl⟩
  have hn8 : n < 8 := by omega
  have hs := step_limbs h6 (lm_lt m j) (h1 n hn8) h2
  have hz : upd o n ((q * lm m j + o n + c) % B6) i = 0 := by
    by_cases e : j = 0
    · subst e
      obtain rfl : i = n := by omega
      obtain ⟨g1, g2⟩ := h5 rfl
      rw [upd_at, g2, ← g1]
      exact first_zero hv
    · rw [upd_ne _ _ (by omega)]; exact h4 (by omega)
  rw [hn] at h8 ⊢
  refine ⟨upd_lt h1 (Nat.mod_lt _ (by decide)) _, hs.2.2.2, fun k hk => by rw [upd_ne _ _ (by omega)]; exact h3 k hk, fun _ => hz, fun e => by omega, h6, s, h7, ?_⟩
  have hu := val_upd 8 o n ((q * lm m j + o n + c) % B6) hn8
  have hdm := Nat.div_add_mod (q * lm m j + o n + c) B6
  rw [mod_succ m j, show i + (j + 1) = n + 1 by omega, Nat.pow_succ]
  generalize hT : q * lm m j + o n + c = T at *
  have e1 : T / B6 * (B6 ^ n * B6) + T % B6 * B6 ^ n = T * B6 ^ n := by
    have : (B6 * (T / B6) + T % B6) * B6 ^ n = T * B6 ^ n := by rw [hdm]
    rw [← this, Nat.add_mul]
    congr 1
    simp only [Nat.mul_comm, Nat.mul_left_comm, Nat.mul_assoc]
  have e2 : q * (m % B6 ^ j + B6 ^ j * lm m j) * B6 ^ i = q * (m % B6 ^ j) * B6 ^ i + q * lm m j * B6 ^ n := by
    rw [← hn, Nat.pow_add, Nat.mul_add, Nat.add_mul]
    congr 1
    simp only [Nat.mul_comm, Nat.mul_left_comm, Nat.mul_assoc]
  have e3 : T * B6 ^ n = q * lm m j * B6 ^ n + o n * B6 ^ n + c * B6 ^ n := by rw [← hT, Nat.add_mul, Nat.add_mul]
  rw [e2]
  omega
theorem RJ.next {m v W i c top q : Nat} {o : Nat → Nat} (h : RJ m v W i 4 c top q o) (hm : m < B6 ^ 4) : RK m W i (i + 4) c top o := by
  obtain ⟨h1, h2, h3, h4, h5, h6, s, h7, h8⟩ := h
  refine ⟨h1, h2, fun k hk => ?_, s + q * B6 ^ i, ?_, ?_⟩
  · by_cases e : k = i
    · rw [e]; exact h4 (by omega)
    · exact h3 k (by omega)
  · have : (q + 1) * B6 ^ i ≤ B6 * B6 ^ i := Nat.mul_le_mul_right _ h6
    rw [Nat.pow_succ, Nat.mul_comm (B6 ^ i)]
    rw [Nat.add_mul] at this
    omega
  · rw [Nat.mod_eq_of_lt hm] at h8
    rw [h8, Nat.add_mul, Nat.add_assoc]
    congr 2
    simp only [Nat.mul_comm, Nat.mul_left_comm, Nat.mul_assoc]
theorem RK.step {m W i j c top : Nat} {o : Nat → Nat} (h : RK m W i j c top o) (hj : i + 4 ≤ j) (h8 : j < 8) : RK m W i (j + 1) ((o j + c + 0) / B6) top (upd o j ((o j + c + 0) % B6)) := by
  obtain ⟨h1, h2, h3, s, h4, h5⟩ := h
  have hoj := h1 j h8
  refine ⟨upd_lt h1 (Nat.mod_lt _ (by decide)) _, ?_, fun k hk => by rw [upd_ne _ _ (by omega)]; exact h3 k hk, s, h4, ?_⟩
  · simp only [B6] at *; omega
  · have hu := val_upd 8 o j ((o j + c + 0) % B6) h8
    have hdm := Nat.div_add_mod (o j + c + 0) B6
    have e3 : (o j + c + 0) * B6 ^ j = o j * B6 ^ j + c * B6 ^ j := by rw [Nat.add_zero, Nat.add_mul]
    rw [Nat.pow_succ]
    generalize o j + c + 0 = T at *
    have e1 : T / B6 * (B6 ^ j * B6) + T % B6 * B6 ^ j = T * B6 ^ j := by
      have : (B6 * (T / B6) + T % B6) * B6 ^ j = T * B6 ^ j := by rw [hdm]
      rw [← this, Nat.add_mul]
      congr 1
      simp only [Nat.mul_comm, Nat.mul_left_comm, Nat.mul_assoc]
    omega
theorem RK.top {m W i c top : Nat} {o : Nat → Nat} (h : RK m W i 8 c top o) (hW : W < m * B6 ^ 4) (hm : m < B6 ^ 4) (hi : i < 4) : top + c ≤ 1 := by
  obtain ⟨h1, h2, h3, s, h4, h5⟩ := h
  have hs : s < B6 ^ 4 := Nat.lt_of_lt_of_le h4 (Nat.pow_le_pow_right (by decide) (by omega))
  have h6 : s * m ≤ B6 ^ 4 * m := Nat.mul_le_mul_right _ (by omega)
  have h7 : m * B6 ^ 4 ≤ B6 ^ 4 * B6 ^ 4 := Nat.mul_le_mul_right _ (by omega)
  rw [Nat.mul_comm (B6 ^ 4) m] at h6
  have h8 : (top + c) * B6 ^ 8 < 2 * B6 ^ 8 := by
    rw [Nat.add_mul]
    have : B6 ^ 4 * B6 ^ 4 = B6 ^ 8 := by decide
    omega
  have := Nat.lt_of_mul_lt_mul_right h8
  omega
theorem RK.next {m W i c top : Nat} {o : Nat → Nat} (h : RK m W i 8 c top o) : RI m W (i + 1) (top + c) o := by
  obtain ⟨h1, h2, h3, s, h4, h5⟩ := h
  exact ⟨h1, h3, s, h4, by rw [Nat.add_mul]; omega⟩
theorem RI.zero {m W : Nat} (hW : W < B6 ^ 8) : RI m W 0 0 (lm W) := ⟨fun k _ => lm_lt W k, by omega, 0, by decide, by rw [val_lm' hW]; omega⟩
theorem RI.ends {m W top : Nat} {o : Nat → Nat} (h : RI m W 4 top o) : ∃ r, r < B6 ^ 4 ∧ (∀ k, k < 4 → o (4 + k) = lm r k) ∧ ∃ s, s < B6 ^ 4 ∧ (r + top * B6 ^ 4) * B6 ^ 4 = W + s * m := by
  obtain ⟨h1, h2, s, h3, h4⟩ := h
  have hb : ∀ k, k < 4 → o (4 + k) < B6 := fun k hk => h1 _ (by omega)
  refine ⟨val 4 (fun k => o (4 + k)), val_lt 4 _ hb, fun k hk => (lm_val 4 (fun k => o (4 + k)) hb k hk).symm, s, h3, ?_⟩
  rw [← h4]
  have z0 := h2 0 (by omega); have z1 := h2 1 (by omega); have z2 := h2 2 (by omega); have z3 := h2 3 (by omega)
  simp only [val, z0, z1, z2, z3, B6, Nat.reduceAdd, Nat.zero_add]
  omega

/-- The end of a step: less the modulus, once, if it is not below. -/
theorem sel_red {t m r top : Nat} (ht : t = r + top * B6 ^ 4) (hr : r < B6 ^ 4) (h2 : t < 2 * m) (hm : m < B6 ^ 4) (htop : top ≤ 1) :
    ∃ l n bit : Nat, bor r m 4 = l ∧ l ≤ 1 ∧ IntKind.u64.wrap (1 - (l : Int)) = (n : Nat) ∧ bits .or .u64 (top : Int) (n : Int) = (bit : Nat) ∧ bit ≤ 1 ∧ num (if bit = 1 then r + B6 ^ 4 - m else r) = num (t % m) := by
  have hlm : ∀ x k, k < 4 → lm (x + B6 ^ 4) k = lm x k := fun x k hk => by
    obtain ⟨j, hj⟩ : ∃ j, 4 = k + 1 + j := ⟨3 - k, by omega⟩
    unfold lm
    have : x + B6 ^ 4 = x + (B6 ^ j * B6) * B6 ^ k := by
      rw [hj, Nat.pow_add, Nat.pow_succ]
      simp only [Nat.mul_comm, Nat.mul_left_comm, Nat.mul_assoc]
    rw [this, Nat.add_mul_div_right _ _ (Nat.pow_pos (by decide)), Nat.add_mul_mod_self_right]
  have hnum : ∀ x, num (x + B6 ^ 4) = num x := fun x => by
    unfold num limbs
    rw [hlm x 0 (by omega), hlm x 1 (by omega), hlm x 2 (by omega), hlm x 3 (by omega)]
  have hb := bor4 hr hm
  have h01 : top = 0 ∨ top = 1 := by omega
  by_cases hlt : r < m
  · rw [if_pos hlt] at hb
    refine ⟨1, 0, top, hb, by omega, rfl, ?_, htop, ?_⟩
    · rcases h01 with rfl | rfl <;> rfl
    · rcases h01 with rfl | rfl
      · rw [if_neg (by omega), ht, Nat.zero_mul, Nat.add_zero, Nat.mod_eq_of_lt hlt]
      · rw [if_pos rfl, Nat.mod_eq_sub_mod (by omega), Nat.mod_eq_of_lt (by omega)]
        congr 1
        omega
  · rw [if_neg hlt] at hb
    have h0 : top = 0 := by
      rcases h01 with rfl | rfl
      · rfl
      · omega
    subst h0
    refine ⟨0, 1, 1, hb, by omega, rfl, rfl, by omega, ?_⟩
    rw [if_pos rfl, Nat.mod_eq_sub_mod (by omega), Nat.mod_eq_of_lt (by omega)]
    have : r + B6 ^ 4 - m = t - m + B6 ^ 4 := by omega
    rw [this, hnum]
theorem num_top (x : Nat) : num (x + B6 ^ 4) = num x := by
  have hlm : ∀ x k, k < 4 → lm (x + B6 ^ 4) k = lm x k := fun x k hk => by
    obtain ⟨j, hj⟩ : ∃ j, 4 = k + 1 + j := ⟨3 - k, by omega⟩
    unfold lm
    have : x + B6 ^ 4 = x + (B6 ^ j * B6) * B6 ^ k := by
      rw [hj, Nat.pow_add, Nat.pow_succ]
      simp only [Nat.mul_comm, Nat.mul_left_comm, Nat.mul_assoc]
    rw [this, Nat.add_mul_div_right _ _ (Nat.pow_pos (by decide)), Nat.add_mul_mod_self_right]
  unfold num limbs
  rw [hlm x 0 (by omega), hlm x 1 (by omega), hlm x 2 (by omega), hlm x 3 (by omega)]

/-- What Montgomery's step answers. -/
theorem red_eq {m W ri s t : Nat} (hri : B6 ^ 4 * ri % m = 1) (h : t * B6 ^ 4 = W + s * m) : t % m = W * ri % m := by
  have h1 : t * (B6 ^ 4 * ri) = (W + s * m) * ri := by rw [← Nat.mul_assoc, h]
  have h2 : (t * (B6 ^ 4 * ri)) % m = t % m := by rw [Nat.mul_mod, hri, Nat.mul_one, Nat.mod_mod]
  rw [← h2, h1, Nat.add_mul]
  have : s * m * ri = s * ri * m := by simp only [Nat.mul_comm, Nat.mul_left_comm]
  rw [this, Nat.add_mul_mod_self_right]
theorem red_lt {m W s t : Nat} (hW : W < m * B6 ^ 4) (hs : s < B6 ^ 4) (h : t * B6 ^ 4 = W + s * m) : t < 2 * m := by
  have h6 : s * m ≤ B6 ^ 4 * m := Nat.mul_le_mul_right _ (by omega)
  rw [Nat.mul_comm (B6 ^ 4) m] at h6
  have : t * B6 ^ 4 < 2 * m * B6 ^ 4 := by rw [Nat.mul_assoc]; omega
  exact Nat.lt_of_mul_lt_mul_right this

end Go.Proofs.Ytplldbmjdnikeaa

/- The walk of limb.Mont.reduce. -/
namespace Go.Proofs.Ytplldbmjdnikeaa
set_option linter.unusedVariables false
set_option linter.unusedSimpArgs false
open Go.RowKit

/-- The cells of a limb.Mont. -/
def mtCells (m v : Nat) : Array Value := #[.int .u64 (lm m 0 : Nat), .int .u64 (lm m 1 : Nat), .int .u64 (lm m 2 : Nat), .int .u64 (lm m 3 : Nat), .int .u64 (lm (B6 ^ 4 * B6 ^ 4 % m) 0 : Nat), .int .u64 (lm (B6 ^ 4 * B6 ^ 4 % m) 1 : Nat), .int .u64 (lm (B6 ^ 4 * B6 ^ 4 % m) 2 : Nat), .int .u64 (lm (B6 ^ 4 * B6 ^ 4 % m) 3 : Nat), .int .u64 (v : Nat)]
/-- Block a is Montgomery's way for m. -/
def Mt (w : World) (a m v : Nat) : Prop := w.heap[a]? = some (.cells (mtCells m v) 116 (0, 0))
theorem Mt.cell {w : World} {a m v : Nat} (h : Mt w a m v) {k : Nat} (hk : k < 4) : w.cell? ⟨a, k, none⟩ = some (.int .u64 (lm m k : Nat)) := by
  rw [cell_of_has h]
  have : k = 0 ∨ k = 1 ∨ k = 2 ∨ k = 3 := by omega
  rcases this with rfl | rfl | rfl | rfl <;> rfl
theorem Mt.cell2 {w : World} {a m v : Nat} (h : Mt w a m v) {k : Nat} (hk : k < 4) : w.cell? ⟨a, 4 + k, none⟩ = some (.int .u64 (lm (B6 ^ 4 * B6 ^ 4 % m) k : Nat)) := by
  rw [cell_of_has h]
  have : k = 0 ∨ k = 1 ∨ k = 2 ∨ k = 3 := by omega
  rcases this with rfl | rfl | rfl | rfl <;> rfl
theorem Mt.inv {w : World} {a m v : Nat} (h : Mt w a m v) : w.cell? ⟨a, 8, none⟩ = some (.int .u64 (v : Nat)) := by
  rw [cell_of_has h]; rfl
theorem Mt.chg {S : List Nat} {w w' : World} {a m v : Nat} (h : Mt w a m v) (hc : Chg S w w') (hs : a ∉ S) : Mt w' a m v := hc.has h hs
theorem Mt.lt {w : World} {a m v : Nat} (h : Mt w a m v) : a < w.heap.size := lt_of_has h

theorem keep_put4 {w : World} {b a c : Nat} {t : TypeId} {r m v d : Nat} (hr : U4 w b t (lm r)) (hm : Mt w a m v) (h1 : ¬ b = c) (h2 : ¬ a = c) :
    ((((w.setCell ⟨c, 0, none⟩ (.int .u64 (lm d 0 : Nat))).setCell ⟨c, 1, none⟩ (.int .u64 (lm d 1 : Nat))).setCell ⟨c, 2, none⟩ (.int .u64 (lm d 2 : Nat))).setCell ⟨c, 3, none⟩ (.int .u64 (lm d 3 : Nat))).cell? ⟨b, 0, none⟩ = some (.int .u64 (lm r 0 : Nat)) ∧ ((((w.setCell ⟨c, 0, none⟩ (.int .u64 (lm d 0 : Nat))).setCell ⟨c, 1, none⟩ (.int .u64 (lm d 1 : Nat))).setCell ⟨c, 2, none⟩ (.int .u64 (lm d 2 : Nat))).setCell ⟨c, 3, none⟩ (.int .u64 (lm d 3 : Nat))).cell? ⟨b, 1, none⟩ = some (.int .u64 (lm r 1 : Nat)) ∧ ((((w.setCell ⟨c, 0, none⟩ (.int .u64 (lm d 0 : Nat))).setCell ⟨c, 1, none⟩ (.int .u64 (lm d 1 : Nat))).setCell ⟨c, 2, none⟩ (.int .u64 (lm d 2 : Nat))).setCell ⟨c, 3, none⟩ (.int .u64 (lm d 3 : Nat))).cell? ⟨b, 2, none⟩ = some (.int .u64 (lm r 2 : Nat)) ∧ ((((w.setCell ⟨c, 0, none⟩ (.int .u64 (lm d 0 : Nat))).setCell ⟨c, 1, none⟩ (.int .u64 (lm d 1 : Nat))).setCell ⟨c, 2, none⟩ (.int .u64 (lm d 2 : Nat))).setCell ⟨c, 3, none⟩ (.int .u64 (lm d 3 : Nat))).cell? ⟨b, 3, none⟩ = some (.int .u64 (lm r 3 : Nat)) ∧ ((((w.setCell ⟨c, 0, none⟩ (.int .u64 (lm d 0 : Nat))).setCell ⟨c, 1, none⟩ (.int .u64 (lm d 1 : Nat))).setCell ⟨c, 2, none⟩ (.int .u64 (lm d 2 : Nat))).setCell ⟨c, 3, none⟩ (.int .u64 (lm d 3 : Nat))).cell? ⟨a, 0, none⟩ = some (.int .u64 (lm m 0 : Nat)) ∧ ((((w.setCell ⟨c, 0, none⟩ (.int .u64 (lm d 0 : Nat))).setCell ⟨c, 1, none⟩ (.int .u64 (lm d 1 : Nat))).setCell ⟨c, 2, none⟩ (.int .u64 (lm d 2 : Nat))).setCell ⟨c, 3, none⟩ (.int .u64 (lm d 3 : Nat))).cell? ⟨a, 1, none⟩ = some (.int .u64 (lm m 1 : Nat)) ∧ ((((w.setCell ⟨c, 0, none⟩ (.int .u64 (lm d 0 : Nat))).setCell ⟨c, 1, none⟩ (.int .u64 (lm d 1 : Nat))).setCell ⟨c, 2, none⟩ (.int .u64 (lm d 2 : Nat))).setCell ⟨c, 3, none⟩ (.int .u64 (lm d 3 : Nat))).cell? ⟨a, 2, none⟩ = some (.int .u64 (lm m 2 : Nat)) ∧ ((((w.setCell ⟨c, 0, none⟩ (.int .u64 (lm d 0 : Nat))).setCell ⟨c, 1, none⟩ (.int .u64 (lm d 1 : Nat))).setCell ⟨c, 2, none⟩ (.int .u64 (lm d 2 : Nat))).setCell ⟨c, 3, none⟩ (.int .u64 (lm d 3 : Nat))).cell? ⟨a, 3, none⟩ = some (.int .u64 (lm m 3 : Nat)) := by
  have hC : Chg [c] w (put4 w c (lm d)) := Chg.put4 (Chg.refl _ _) (Or.inl (by simp)) _
  have hr' := hr.chg hC (by simpa using h1)
  have hm' := hm.chg hC (by simpa using h2)
  exact ⟨hr'.cell (by omega), hr'.cell (by omega), hr'.cell (by omega), hr'.cell (by omega), hm'.cell (by omega), hm'.cell (by omega), hm'.cell (by omega), hm'.cell (by omega)⟩

set_option maxRecDepth 100000 in
set_option maxHeartbeats 4000000 in
theorem mont_reduce (a m v V ri : Nat) (hm : m < B6 ^ 4) (hv : Minv m v) (hV : V < m * B6 ^ 4) (hri : B6 ^ 4 * ri % m = 1) (w : World) (hM : Mt w a m v) :
    Calls Try.prog 93 #[.pointer (some ⟨a, 0, none⟩), .agg (wid V)] w fun e w' =>
    e = .returned (.agg (num (V * ri % m))) ∧ Chg [] w w' := by
  obtain ⟨Z, hZ⟩ : ∃ Z, num (V * ri % m) = Z := ⟨_, rfl⟩
  rw [hZ]
  have hV8 : V < B6 ^ 8 := by
    have h7 : m * B6 ^ 4 ≤ B6 ^ 4 * B6 ^ 4 := Nat.mul_le_mul_right _ (by omega)
    have : B6 ^ 4 * B6 ^ 4 = B6 ^ 8 := by decide
    omega
  unfold wid limbs8
  obtain ⟨W0, hW0⟩ : ∃ W0, (w.alloc (.cells (limbs8 (lm V)) 90)).alloc (.cells (limbs fun _ => 0) 24) = W0 := ⟨_, rfl⟩
  have uV : U8 W0 w.heap.size 90 (lm V) := by rw [← hW0]; exact has_alloc (has_alloc_new _ _)
  have uR : U4 W0 (w.heap.size + 1) 24 (fun _ => 0) := by rw [← hW0]; exact has_alloc_at (by simp)
  have hC0 : Chg [] w W0 := by rw [← hW0]; exact ((Chg.refl _ _).alloc _).alloc _
  have hMl := hM.lt
  have hM0 := hM.chg hC0 (by simp)
  have UV := Lib.hid uV; have UR := Lib.hid uR; have HC0 := Lib.hid hC0; have HM0 := Lib.hid hM0
  have HV := Lib.hid hv; have HMM := Lib.hid hm; have HVV := Lib.hid hV; have HRI := Lib.hid hri; have HZ := Lib.hid hZ; have HV8 := Lib.hid hV8
  unfold limbs limbs8 at hW0
  clear uV uR hC0 hM hM0 hv hm hV hri hZ hV8
  go_enter Try.func93, Try.ntmps93
  go_wp2_with fail
  rw [show (w.alloc (.cells #[.int .u64 (lm V 0 : Nat), .int .u64 (lm V 1 : Nat), .int .u64 (lm V 2 : Nat), .int .u64 (lm V 3 : Nat), .int .u64 (lm V 4 : Nat), .int .u64 (lm V 5 : Nat), .int .u64 (lm V 6 : Nat), .int .u64 (lm V 7 : Nat)] 90)).alloc (.cells #[.int .u64 0, .int .u64 0, .int .u64 0, .int .u64 0] 24) = W0 from hW0]
  clear hW0
  obtain ⟨P, hP⟩ : ∃ P, w.heap.size = P := ⟨_, rfl⟩
  rw [hP] at UV UR hMl ⊢
  go_loopg [5, 18] 4 (fun gk t i wr => ∃ (k top : Nat) (o : Nat → Nat), gk + k = 4 ∧ i = .int .i64 k ∧ t = .int .u64 top ∧ U8 wr P 90 o ∧ Hid (RI m V k top o) ∧ Chg [P] W0 wr)
  case atStart => exact ⟨0, 0, _, by omega, rfl, rfl, UV.out, Lib.hid (RI.zero HV8.out), Chg.refl _ _⟩
  case round =>
    obtain ⟨k, top, o, hk, rfl, rfl, hO, hI, hC⟩ := hrel
    have HC := Lib.hid hC; have HO := Lib.hid hO
    clear hC hO
    have hM1 := HM0.out.chg HC.out (by simp; omega)
    have HM1 := Lib.hid hM1
    clear hM1
    by_cases hlt : k < 4
    · have cO := HO.out.cell (k := k) (by omega)
      have cI := HM1.out.inv
      obtain ⟨m0, m1, m2, m3⟩ := four4 fun _ => (HM1.out).cell
      obtain ⟨u, hu⟩ : ∃ u, o k = u := ⟨_, rfl⟩
      have hst := hI.out.start (v := v)
      rw [hu] at hst cO
      have wm := wrap_mul u v
      obtain ⟨q, hq⟩ : ∃ q, u * v % 18446744073709551616 = q := ⟨_, rfl⟩
      rw [hq] at wm
      have hst' : RJ m v V k 0 0 top q o := by rw [← hq]; exact hst
      have HJ0 := Lib.hid hst'
      clear hst hst' hq hu hI
      have hkt : decide ((k : Int) < 4) = true := by simp; omega
      go_wp2_with fail
      go_region
      go_wp2_with fail
      clear hkt
      go_loopg [8, 33] 4 (fun gj c j wq => ∃ (n d : Nat) (p : Nat → Nat), gj + n = 4 ∧ j = .int .i64 n ∧ c = .int .u64 d ∧ U8 wq P 90 p ∧ Hid (RJ m v V k n d top q p) ∧ Chg [P] W0 wq)
      case atStart => exact ⟨0, 0, o, by omega, rfl, rfl, HO.out.chg ((Chg.refl [] _).drewN _) (by simp), HJ0, HC.out.drewN _⟩
      case round =>
        obtain ⟨j, c, p, hj, rfl, rfl, hP', hN, hC'⟩ := hrel
        have HC' := Lib.hid hC'; have HP' := Lib.hid hP'
        clear hC' hP' m0 m1 m2 m3 HO HC HJ0 cO cI wm HM1
        by_cases hlj : j < 4
        · obtain ⟨n, hn⟩ : ∃ n, k + j = n := ⟨_, rfl⟩
          have hn8 : n < 8 := by omega
          have wn : IntKind.i64.wrap ((k : Int) + j) = (n : Nat) := by rw [IntWalk.i64_in _ (by omega)]; omega
          have cO := HP'.out.cell hn8
          have zO := HP'.out.fz n
          have hll := HP'.out.lt
          have hst := hN.out.step HV.out hlt hlj
          rw [hn] at hst
          have hy := lm_lt m j
          have hu : p n < 18446744073709551616 := hN.out.1 n hn8
          have hcb : c < 18446744073709551616 := hN.out.2.1
          have hqb : q < 18446744073709551616 := hN.out.2.2.2.2.2.1
          obtain ⟨hi, lo, s1, k1, h1, k2, c2, v2, e1, e2, add1, add2, g1, g2, e3, e4, hv2⟩ := mstep hqb hy hu hcb
          rw [← e3, ← e4] at hst
          have HS := Lib.hid hst
          have hmul := fun w => bits_mul64 q (lm m j) hqb hy w
          rw [e1, e2] at hmul
          have HMu := Lib.hid hmul
          clear hst hmul e1 e2 e3 e4 hy hu hcb hqb
          have HN := Lib.hid hn
          clear hn
          have iy := fun w => idx4 (lm m) j hlj w
          go_wp2_with fail
          refine (HMu.out _).mono ?_
          rintro e w1 ⟨rfl, rfl⟩
          go_wp2_with fail
          go_roundg (4 - (j + 1))
          case measure => omega
          case rel => exact ⟨j + 1, c2, upd p n v2, by omega, by go_num, rfl, HP'.out.set hn8 v2, HS, by
            repeat (with_reducible first | exact HC'.out | refine Chg.setCell ?_ (Or.inl (by simp)) _ | apply Chg.drew | apply Chg.drewN)⟩
        · obtain rfl : j = 4 := by omega
          have hK := hN.out.next HMM.out
          have HK := Lib.hid hK
          clear hK hN
          obtain ⟨n0, hn0⟩ : ∃ n0, k + 4 = n0 := ⟨_, rfl⟩
          have wn : IntKind.i64.wrap ((k : Int) + 4) = (n0 : Nat) := by rw [IntWalk.i64_in _ (by omega)]; omega
          rw [hn0] at HK
          go_wp2_with fail
          go_loopg [8, 14] 4 (fun gj c j wq => ∃ (n d : Nat) (p : Nat → Nat), gj + n = n0 + 4 ∧ n ≤ 8 ∧ n0 ≤ n ∧ j = .int .i64 n ∧ c = .int .u64 d ∧ U8 wq P 90 p ∧ Hid (RK m V k n d top p) ∧ Chg [P] W0 wq)
          case atStart => exact ⟨n0, c, p, by omega, by omega, by omega, rfl, rfl, HP'.out, HK, HC'.out⟩
          case round =>
            obtain ⟨j, c', p', hj, hj8, hj0, rfl, rfl, hP2, hK2, hC2⟩ := hrel
            have HC2 := Lib.hid hC2; have HP2 := Lib.hid hP2
            clear hC2 hP2 HP' HK HC' wn
            by_cases hlj : j < 8
            · have cO := HP2.out.cell hlj
              have zO := HP2.out.fz j
              have hll := HP2.out.lt
              have hst := hK2.out.step (by omega) hlj
              have hadd : ∀ w : World, (callFunc 95 #[.int .u64 (p' j : Nat), .int .u64 (c' : Nat), .int .u64 0]).run Try.prog w = .ok (.value (.tuple #[.int .u64 ((p' j + c' + 0) % 18446744073709551616 : Nat), .int .u64 ((p' j + c' + 0) / 18446744073709551616 : Nat)])) w := fun w => add64 (p' j) c' 0 (by omega) w
              obtain ⟨s, hs⟩ : ∃ s, (p' j + c' + 0) % 18446744073709551616 = s := ⟨_, rfl⟩
              obtain ⟨d, hd⟩ : ∃ d, (p' j + c' + 0) / 18446744073709551616 = d := ⟨_, rfl⟩
              rw [show (p' j + c' + 0) % B6 = s from hs, show (p' j + c' + 0) / B6 = d from hd] at hst
              simp only [hs, hd] at hadd
              have HS := Lib.hid hst
              clear hst hs hd
              go_wp2_with fail
              go_roundg (n0 + 4 - (j + 1))
              case measure => omega
              case rel => exact ⟨j + 1, d, upd p' j s, by omega, by omega, by omega, by go_num, rfl, HP2.out.set hlj s, HS, by
                repeat (with_reducible first | exact HC2.out | refine Chg.setCell ?_ (Or.inl (by simp)) _ | apply Chg.drew | apply Chg.drewN)⟩
            · obtain rfl : j = 8 := by omega
              have ht := hK2.out.top HVV.out HMM.out hlt
              have HI := Lib.hid hK2.out.next
              have wt : IntKind.u64.wrap ((top : Int) + c') = ((top + c' : Nat) : Int) := by rw [IntWalk.u64_in _ (by omega)]; omega
              obtain ⟨t2, ht2⟩ : ∃ t2, top + c' = t2 := ⟨_, rfl⟩
              rw [ht2] at wt HI
              clear ht2 ht
              go_wp2_with fail
              go_roundg (4 - (k + 1))
              case measure => omega
              case rel => exact ⟨k + 1, t2, p', by omega, by go_num, rfl, HP2.out, HI, HC2.out⟩
    · obtain rfl : k = 4 := by omega
      obtain ⟨r, hr, hro, s, hs, ht⟩ := hI.out.ends
      have hl := red_lt HVV.out hs ht
      have htop : top ≤ 1 := by
        have : top * B6 ^ 4 < 2 * B6 ^ 4 := by have := HMM.out; omega
        have := Nat.lt_of_mul_lt_mul_right this
        omega
      obtain ⟨l, n, bit, b1, b2, b3, b4, b5, b6⟩ := sel_red rfl hr hl HMM.out htop
      rw [red_eq HRI.out ht, HZ.out] at b6
      have o4 := HO.out.cell (k := 4) (by omega); have o5 := HO.out.cell (k := 5) (by omega); have o6 := HO.out.cell (k := 6) (by omega); have o7 := HO.out.cell (k := 7) (by omega)
      rw [hro 0 (by omega)] at o4; rw [hro 1 (by omega)] at o5; rw [hro 2 (by omega)] at o6; rw [hro 3 (by omega)] at o7
      have hsub := fun w => limb_sub0 r m _ rfl (by have := HMM.out; omega) w
      rw [b1] at hsub
      generalize r + B6 ^ 4 - m = d at *
      have hsel := fun w => limb_select bit b5 d r w
      rw [b6] at hsel
      unfold num limbs at hsub
      have HSub := Lib.hid hsub; have HSel := Lib.hid hsel
      clear hro hI ht hl htop hsub hsel b1 b6 hr
      obtain ⟨W1, hW1⟩ : ∃ W1, wr.alloc (.cells (limbs (lm r)) 24) = W1 := ⟨_, rfl⟩
      have hr1 : U4 W1 wr.heap.size 24 (lm r) := by rw [← hW1]; exact has_alloc_new _ _
      have hM2 : Mt W1 a m v := by rw [← hW1]; exact HM1.out.chg ((Chg.refl [] _).alloc _) (by simp)
      have hC2 : Chg [] w W1 := by rw [← hW1]; exact (HC0.out.trans_new HC.out (by simp; omega)).alloc _
      have hR2 : U4 W1 (P + 1) 24 (fun _ => 0) := by rw [← hW1]; exact (UR.out.chg HC.out (by simp)).chg ((Chg.refl [] _).alloc _) (by simp)
      have hRl := (UR.out.chg HC.out (by simp)).lt
      unfold limbs at hW1
      go_wp2_with fail
      clear hW1 o4 o5 o6 o7
      obtain ⟨B, hB⟩ : ∃ B, wr.heap.size = B := ⟨_, rfl⟩
      rw [hB] at hr1 hRl ⊢
      obtain ⟨r0, r1, r2, r3⟩ := four4 fun _ => (hr1).cell
      obtain ⟨m0, m1, m2, m3⟩ := four4 fun _ => (hM2).cell
      have hBl := hr1.lt; have hal := hM2.lt
      have hne1 : ¬ B = W1.heap.size := by omega
      have hne2 : ¬ a = W1.heap.size := by omega
      clear hBl hal
      have HR1 := Lib.hid hr1; have HM2 := Lib.hid hM2; have HC2 := Lib.hid hC2; have HR2 := Lib.hid hR2
      clear hr1 hM2 hC2 hR2 HO HC HM1 hB
      go_upto_region 24 with fail
      go_cut [16, 17] from 100 to 108 (fun cv lv wx => ∃ cb, cv = .pointer (some ⟨cb, 0, none⟩) ∧ lv = .int .u64 (l : Nat) ∧ U4 wx cb 24 (lm d) ∧ Chg [] W1 wx)
      case first =>
        go_region_held3 (fun w' => w'.cell? ⟨B, 0, none⟩ = some (.int .u64 (lm r 0 : Nat)) ∧ w'.cell? ⟨B, 1, none⟩ = some (.int .u64 (lm r 1 : Nat)) ∧ w'.cell? ⟨B, 2, none⟩ = some (.int .u64 (lm r 2 : Nat)) ∧ w'.cell? ⟨B, 3, none⟩ = some (.int .u64 (lm r 3 : Nat)) ∧ w'.cell? ⟨a, 0, none⟩ = some (.int .u64 (lm m 0 : Nat)) ∧ w'.cell? ⟨a, 1, none⟩ = some (.int .u64 (lm m 1 : Nat)) ∧ w'.cell? ⟨a, 2, none⟩ = some (.int .u64 (lm m 2 : Nat)) ∧ w'.cell? ⟨a, 3, none⟩ = some (.int .u64 (lm m 3 : Nat)))
          (first | with_reducible exact ⟨r0, r1, r2, r3, m0, m1, m2, m3⟩ | with_reducible exact keep_put4 HR3.out HM3.out hne1 hne2 | go_keep)
          (first | (go_at_call 85; go_loud (refine (HSub.out _).mono ?_; rintro e w3 ⟨rfl, hC3⟩; have hC4 : Chg [] W1 w3 := Chg.trans (by repeat (with_reducible first | exact Chg.refl _ _ | apply Chg.drew | apply Chg.alloc)) hC3; (try (have hN3 : U4 w3 W1.heap.size 24 (fun _ => 0) := hC3.has (has_alloc_at rfl) nmN; obtain ⟨n0, n1, n2, n3⟩ := four4 fun _ => (hN3).cell; have nz0 := (hN3).fz 0; have nz1 := (hN3).fz 1; have nz2 := (hN3).fz 2; have nz3 := (hN3).fz 3; have HN3 := Lib.hid hN3; clear hN3)); have hr3 := HR1.out.chg hC4 nmN; have hm3 := HM2.out.chg hC4 nmN; have hll3 := hr3.lt; clear hC3 r0 r1 r2 r3 m0 m1 m2 m3; obtain ⟨r0, r1, r2, r3⟩ := four4 fun _ => (hr3).cell; obtain ⟨m0, m1, m2, m3⟩ := four4 fun _ => (hm3).cell; have HR3 := Lib.hid hr3; have HM3 := Lib.hid hm3; have HC4 := Lib.hid hC4; clear hr3 hm3 hC4)))
        · go_wp2_with fail
          go_meet
          case rel => exact ⟨_, rfl, rfl, has_alloc_new _ _, HC4.out.alloc _⟩
        · go_wp2_with fail
          go_meet
          case rel => exact ⟨_, rfl, rfl, HN3.out.put (lm d), HC4.out.put4 (Or.inr (Nat.le_refl _)) (lm d)⟩
      case rest =>
        obtain ⟨cb, rfl, rfl, hcb, hC3⟩ := hcut
        have hr3 := HR1.out.chg hC3 nmN
        have hR3 := HR2.out.chg hC3 nmN
        have hw3 := HC2.out.trans hC3
        clear hC3 r0 r1 r2 r3 m0 m1 m2 m3
        obtain ⟨r0, r1, r2, r3⟩ := four4 fun _ => (hr3).cell
        obtain ⟨d0, d1, d2, d3⟩ := four4 fun _ => (hcb).cell
        have HR3 := Lib.hid hR3; have HW3 := Lib.hid hw3
        clear hr3 hcb hR3 hw3 HR1 HR2 HC2
        go_wp2_with fail
        refine (HSel.out _).mono ?_
        rintro e w4 ⟨rfl, hC4⟩
        have hz : ∃ z, Z = num z := ⟨_, HZ.out.symm⟩
        obtain ⟨z, rfl⟩ := hz
        unfold num limbs
        have hR4 := HR3.out.chg hC4 nmN
        have hw4 := HW3.out.trans hC4
        obtain ⟨q0, q1, q2, q3⟩ := four4 fun _ => (hR4).cell
        have qz0 := (hR4).fz 0; have qz1 := (hR4).fz 1; have qz2 := (hR4).fz 2; have qz3 := (hR4).fz 3
        have hF := hR4.put (lm z)
        have hCF := hw4.put4 (b := P + 1) (Or.inr (by omega)) (lm z)
        have HF := Lib.hid hF; have HCF := Lib.hid hCF
        clear hR4 hw4 hF hCF hC4 r0 r1 r2 r3 d0 d1 d2 d3
        go_wp2_with fail
        have hF := HF.out
        have hCF := HCF.out
        refine (id ?_ : bodyPost _ _ _ _ _ (put4 w4 (P + 1) (lm z)))
        clear HF HCF
        generalize put4 w4 (P + 1) (lm z) = W5 at *
        obtain ⟨g0, g1, g2, g3⟩ := four4 fun _ => hF.cell
        exact bodyPost_ret (v := .agg (num z)) (by simp [results, Try.results93, go_sem, num, limbs, g0, g1, g2, g3]) rfl ⟨rfl, hCF⟩

end Go.Proofs.Ytplldbmjdnikeaa
