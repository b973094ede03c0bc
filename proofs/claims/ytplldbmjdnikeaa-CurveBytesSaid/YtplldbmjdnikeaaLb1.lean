import Derived.Test.YtplldbmjdnikeaaBase
import Derived.Shelf.Bits.Mul64
import Derived.Shelf.Spec.BitsCarry
import Derived.Laws.BitsLemmas
import Derived.Laws.ShiftsVar

/- math/bits.Mul64 at this program: the walk of its text. -/
namespace Go.Proofs.Ytplldbmjdnikeaa
set_option linter.unusedVariables false
set_option linter.unusedSimpArgs false
open Go.RowKit Go.Lib

set_option maxHeartbeats 1000000 in
theorem bits_mul64 (x y : Nat) (hx : x < 18446744073709551616) (hy : y < 18446744073709551616) (w : World) :
    Calls Try.prog 94 #[.int .u64 x, .int .u64 y] w fun e w' => e = .returned (.tuple #[.int .u64 ((x * y / 18446744073709551616 : Nat) : Int), .int .u64 ((x * y % 18446744073709551616 : Nat) : Int)]) ∧ w = w' := by
  obtain ⟨bd, bt, bw, hhi⟩ := Lib.mul64_hi x y hx hy
  have ba := Lib.half_mul_le (a := x / 4294967296) (b := y / 4294967296) (by omega) (by omega)
  have bb := Lib.half_mul_le (a := x / 4294967296) (b := y % 4294967296) (by omega) (by omega)
  have bc := Lib.half_mul_le (a := x % 4294967296) (b := y / 4294967296) (by omega) (by omega)
  have ba' : x / 4294967296 * (y / 4294967296) < 18446744073709551616 := by omega
  have bb' : x / 4294967296 * (y % 4294967296) < 18446744073709551616 := by omega
  have bc' : x % 4294967296 * (y / 4294967296) < 18446744073709551616 := by omega
  have bh1 : x / 4294967296 * (y / 4294967296) + (x / 4294967296 * (y % 4294967296) + x % 4294967296 * (y % 4294967296) / 4294967296) / 4294967296 < 18446744073709551616 := by omega
  have bh : x / 4294967296 * (y / 4294967296) + (x / 4294967296 * (y % 4294967296) + x % 4294967296 * (y % 4294967296) / 4294967296) / 4294967296 + ((x / 4294967296 * (y % 4294967296) + x % 4294967296 * (y % 4294967296) / 4294967296) % 4294967296 + x % 4294967296 * (y / 4294967296)) / 4294967296 < 18446744073709551616 := by omega
  go_enter Try.func94, Try.ntmps94
  go_wp2
  simp only [Mul64.maskN x hx, Mul64.maskN y hy, Mul64.divN, Mul64.mulN, Mul64.addN, Mul64.wrapN _ bd, Mul64.wrapN _ bb', Mul64.wrapN _ bt, Mul64.maskN _ bt, Mul64.wrapN _ bc', Mul64.wrapN _ bw, Mul64.wrapN _ ba', Mul64.wrapN _ bh1, Mul64.wrapN _ bh, Mul64.wrapM (x * y)]
  rw [hhi]
  go_ret2
  exact ⟨rfl, rfl⟩

end Go.Proofs.Ytplldbmjdnikeaa

/- Numbers of 256 bits as four limbs; math/bits.Add64 and Sub64 at this program; the walks of limb.plus, minus. -/
namespace Go.Proofs.Ytplldbmjdnikeaa
set_option linter.unusedVariables false
set_option linter.unusedSimpArgs false
open Go.RowKit

/-- The base of the limbs. -/
abbrev B6 : Nat := 18446744073709551616

theorem add64 (x y c : Nat) (hc : c ≤ 1) (w : World) : (callFunc 95 #[.int .u64 x, .int .u64 y, .int .u64 c]).run Try.prog w =
    .ok (.value (.tuple #[.int .u64 (((x + y + c) % 18446744073709551616 : Nat) : Int), .int .u64 (((x + y + c) / 18446744073709551616 : Nat) : Int)])) w := by
  rw [run_callFunc_extern Try.func95 (by kernel_rfl) (by kernel_rfl) (by kernel_rfl) (e := add64Entry) (by kernel_rfl), run_add64 x y c (by omega) (by omega) (by omega) (by omega)]
  simp only [Result.andThen]
  congr 5 <;> omega
theorem sub64 (x y c : Nat) (hc : c ≤ 1) (w : World) : (callFunc 98 #[.int .u64 x, .int .u64 y, .int .u64 c]).run Try.prog w =
    .ok (.value (.tuple #[.int .u64 (((x + 18446744073709551616 - y - c) % 18446744073709551616 : Nat) : Int), .int .u64 ((if x < y + c then 1 else 0 : Nat) : Int)])) w := by
  rw [run_callFunc_extern Try.func98 (by kernel_rfl) (by kernel_rfl) (by kernel_rfl) (e := sub64Entry) (by kernel_rfl), run_sub64 x y c hc]
  rfl

/-- Four cells of limbs. -/
def limbs (x : Nat → Nat) : Array Value := #[.int .u64 (x 0 : Nat), .int .u64 (x 1 : Nat), .int .u64 (x 2 : Nat), .int .u64 (x 3 : Nat)]
/-- Block b holds these limbs. -/
def U4 (w : World) (b : Nat) (t : TypeId) (x : Nat → Nat) : Prop := w.heap[b]? = some (.cells (limbs x) t (0, 0))

theorem U4.cell {w : World} {b : Nat} {t : TypeId} {x : Nat → Nat} (h : U4 w b t x) {k : Nat} (hk : k < 4) : w.cell? ⟨b, k, none⟩ = some (.int .u64 (x k : Nat)) := by
  rw [cell_of_has h]
  have : k = 0 ∨ k = 1 ∨ k = 2 ∨ k = 3 := by omega
  rcases this with rfl | rfl | rfl | rfl <;> rfl
theorem U4.fz {w : World} {b : Nat} {t : TypeId} {x : Nat → Nat} (h : U4 w b t x) (k : Nat) : w.frozen? ⟨b, k, none⟩ = false := frozen_of_has h k
theorem U4.chg {S : List Nat} {w w' : World} {b : Nat} {t : TypeId} {x : Nat → Nat} (h : U4 w b t x) (hc : Chg S w w') (hs : b ∉ S) : U4 w' b t x := hc.has h hs
theorem U4.lt {w : World} {b : Nat} {t : TypeId} {x : Nat → Nat} (h : U4 w b t x) : b < w.heap.size := lt_of_has h
theorem U4.same {w : World} {b : Nat} {t : TypeId} {x y : Nat → Nat} (h : U4 w b t x) (e : ∀ k, k < 4 → x k = y k) : U4 w b t y := by
  unfold U4 limbs at h ⊢
  rw [h, e 0 (by omega), e 1 (by omega), e 2 (by omega), e 3 (by omega)]
theorem U4.set {w : World} {b : Nat} {t : TypeId} {x : Nat → Nat} (h : U4 w b t x) {k : Nat} (hk : k < 4) (v : Nat) : U4 (w.setCell ⟨b, k, none⟩ (.int .u64 (v : Nat))) b t (fun i => if i = k then v else x i) := by
  have hs := has_set h k (.int .u64 (v : Nat))
  have : k = 0 ∨ k = 1 ∨ k = 2 ∨ k = 3 := by omega
  rcases this with rfl | rfl | rfl | rfl <;> exact hs

/-- The limbs of a number. -/
def lm (a : Nat) (i : Nat) : Nat := a / B6 ^ i % B6
theorem lm_lt (a i : Nat) : lm a i < 18446744073709551616 := Nat.mod_lt _ (by decide)
/-- A number, by its limbs. -/
def num (a : Nat) : Array Value := limbs (lm a)
/-- The carry into limb k of a sum. -/
def cry (a b k : Nat) : Nat := (a % B6 ^ k + b % B6 ^ k) / B6 ^ k

theorem cry_le (a b k : Nat) : cry a b k ≤ 1 := by
  unfold cry
  have hp : 0 < B6 ^ k := Nat.pow_pos (by decide)
  have h1 := Nat.mod_lt a hp
  have h2 := Nat.mod_lt b hp
  have : (a % B6 ^ k + b % B6 ^ k) / B6 ^ k < 2 := by
    rw [Nat.div_lt_iff_lt_mul hp]; omega
  omega
theorem cry_zero (a b : Nat) : cry a b 0 = 0 := by simp [cry, Nat.mod_one]

theorem mod_succ (a k : Nat) : a % B6 ^ (k + 1) = a % B6 ^ k + B6 ^ k * lm a k := by
  unfold lm
  rw [Nat.pow_succ, Nat.mod_mul]

theorem cry_succ (a b k : Nat) : cry a b (k + 1) = (lm a k + lm b k + cry a b k) / 18446744073709551616 := by
  unfold cry
  have hp : 0 < B6 ^ k := Nat.pow_pos (by decide)
  rw [mod_succ, mod_succ, Nat.pow_succ, ← Nat.div_div_eq_div_mul]
  congr 1
  have : a % B6 ^ k + B6 ^ k * lm a k + (b % B6 ^ k + B6 ^ k * lm b k) = (a % B6 ^ k + b % B6 ^ k) + B6 ^ k * (lm a k + lm b k) := by
    rw [Nat.mul_add]; omega
  rw [this, Nat.add_mul_div_left _ _ hp]
  omega
theorem lm_add (a b k : Nat) : lm (a + b) k = (lm a k + lm b k + cry a b k) % 18446744073709551616 := by
  have hp : 0 < B6 ^ k := Nat.pow_pos (by decide)
  have e : (a + b) / B6 ^ k = a / B6 ^ k + b / B6 ^ k + cry a b k := by
    unfold cry
    rw [Nat.add_div hp]
    congr 1
    have h1 := Nat.mod_lt a hp
    have h2 := Nat.mod_lt b hp
    by_cases h : B6 ^ k ≤ a % B6 ^ k + b % B6 ^ k
    · rw [if_pos h]
      have : (a % B6 ^ k + b % B6 ^ k) / B6 ^ k = 1 := by
        rw [Nat.div_eq_iff hp]; omega
      omega
    · rw [if_neg h, Nat.div_eq_of_lt (by omega)]
  unfold lm
  rw [e]
  show (a / B6 ^ k + b / B6 ^ k + cry a b k) % 18446744073709551616 = (a / B6 ^ k % 18446744073709551616 + b / B6 ^ k % 18446744073709551616 + cry a b k) % 18446744073709551616
  omega

set_option maxRecDepth 100000 in
set_option maxHeartbeats 2000000 in
theorem num_plus (a b : Nat) (w : World) : Calls Try.prog 99 #[.agg (num a), .agg (num b)] w fun e w' =>
    e = .returned (.tuple #[.agg (num (a + b)), .int .u64 (cry a b 4 : Nat)]) ∧ Chg [] w w' := by
  unfold num limbs
  obtain ⟨W0, hW0⟩ : ∃ W0, (((w.alloc (.cells (limbs (lm a)) 129)).alloc (.cells (limbs (lm b)) 129)).alloc (.cells (limbs fun _ => 0) 129)).alloc (.cells (limbs fun _ => 0) 129) = W0 := ⟨_, rfl⟩
  have uA : U4 W0 w.heap.size 129 (lm a) := by rw [← hW0]; exact has_alloc (has_alloc (has_alloc (has_alloc_new _ _)))
  have uB : U4 W0 (w.heap.size + 1) 129 (lm b) := by rw [← hW0]; exact has_alloc (has_alloc (has_alloc_at (by simp)))
  have uR : U4 W0 (w.heap.size + 1 + 1) 129 (fun _ => 0) := by rw [← hW0]; exact has_alloc (has_alloc_at (by simp))
  have uO : U4 W0 (w.heap.size + 1 + 1 + 1) 129 (fun _ => 0) := by rw [← hW0]; exact has_alloc_at (by simp)
  have hC0 : Chg [] w W0 := by rw [← hW0]; exact ((((Chg.refl _ _).alloc _).alloc _).alloc _).alloc _
  have UA := Lib.hid uA; have UB := Lib.hid uB; have UR := Lib.hid uR; have UO := Lib.hid uO; have HC0 := Lib.hid hC0
  unfold limbs at hW0
  clear uA uB uR uO hC0
  go_enter Try.func99, Try.ntmps99
  go_wp2_with fail
  rw [show (((w.alloc (.cells #[.int .u64 (lm a 0 : Nat), .int .u64 (lm a 1 : Nat), .int .u64 (lm a 2 : Nat), .int .u64 (lm a 3 : Nat)] 129)).alloc (.cells #[.int .u64 (lm b 0 : Nat), .int .u64 (lm b 1 : Nat), .int .u64 (lm b 2 : Nat), .int .u64 (lm b 3 : Nat)] 129)).alloc (.cells #[.int .u64 0, .int .u64 0, .int .u64 0, .int .u64 0] 129)).alloc (.cells #[.int .u64 0, .int .u64 0, .int .u64 0, .int .u64 0] 129) = W0 from hW0]
  clear hW0
  obtain ⟨P, hP⟩ : ∃ P, w.heap.size = P := ⟨_, rfl⟩
  rw [hP] at UA UB UR UO ⊢
  go_loopw [7, 9] (fun c i wr => ∃ k : Nat, k ≤ 4 ∧ i = .int .i64 k ∧ c = .int .u64 (cry a b k : Nat) ∧ U4 wr (P + 1 + 1 + 1) 129 (fun j => if j < k then lm (a + b) j else 0) ∧ Chg [P + 1 + 1 + 1] W0 wr) (fun _ i _ => 4 - (intOf i).toNat)
  case atStart => exact ⟨0, by omega, rfl, by rw [cry_zero]; rfl, UO.out.same (fun k _ => by simp), Chg.refl _ _⟩
  case round =>
    obtain ⟨k, hk, rfl, rfl, hO, hC⟩ := hrel
    have HC := Lib.hid hC; have HO := Lib.hid hO
    clear hC hO
    by_cases hlt : k < 4
    · have cA := (UA.out.chg HC.out (by simp; omega)).cell hlt
      have cB := (UB.out.chg HC.out (by simp; try omega)).cell hlt
      have cO := HO.out.cell hlt
      have zO := HO.out.fz k
      have hll := HO.out.lt
      obtain ⟨x, hx⟩ : ∃ x, lm a k = x := ⟨_, rfl⟩
      obtain ⟨y, hy⟩ : ∃ y, lm b k = y := ⟨_, rfl⟩
      obtain ⟨c, hc⟩ : ∃ c, cry a b k = c := ⟨_, rfl⟩
      obtain ⟨s, hs⟩ : ∃ s, (x + y + c) % 18446744073709551616 = s := ⟨_, rfl⟩
      obtain ⟨d, hd⟩ : ∃ d, (x + y + c) / 18446744073709551616 = d := ⟨_, rfl⟩
      have hadd := fun w => add64 x y c (by rw [← hc]; exact cry_le a b k) w
      have hS := cry_succ a b k
      have hL := lm_add a b k
      rw [hx, hy, hc, hd] at hS
      rw [hx, hy, hc, hs] at hL
      simp only [hs, hd] at hadd
      have HS := Lib.hid hS; have HL := Lib.hid hL
      rw [hx] at cA
      rw [hy] at cB
      rw [hc]
      clear hS hL hx hy hc hs hd
      go_wp2_with fail
      go_region
      go_wp2_with fail
      refine ⟨⟨k+1, by omega, by go_num, ?_, ?_, ?_⟩, by simp [intOf]; omega⟩
      · rw [HS.out]
      · refine (HO.out.set hlt s).same fun j hj => ?_
        by_cases e : j = k
        · subst e; simp [HL.out]
        · by_cases e2 : j < k
          · simp [e, e2, Nat.lt_succ_of_lt e2]
          · have : ¬ j < k + 1 := by omega
            simp [e, e2, this]
      · repeat (with_reducible first | exact HC.out | refine Chg.setCell ?_ (Or.inl (by simp)) _ | apply Chg.drew | apply Chg.drewN)
    · obtain rfl : k = 4 := by omega
      have hO4 := HO.out.same (y := lm (a + b)) (fun k hk => by simp [hk])
      have hR4 := UR.out.chg HC.out (by simp)
      obtain ⟨o0, o1, o2, o3⟩ := four4 fun _ => hO4.cell
      obtain ⟨r0, r1, r2, r3⟩ := four4 fun _ => hR4.cell
      have z0 := hR4.fz 0; have z1 := hR4.fz 1; have z2 := hR4.fz 2; have z3 := hR4.fz 3
      have hCW := HC0.out.trans_new HC.out (by simp; omega)
      have HCW := Lib.hid hCW
      have hll := hR4.lt
      have hF := ((((hR4.set (k := 0) (by omega) (lm (a + b) 0)).set (k := 1) (by omega) (lm (a + b) 1)).set (k := 2) (by omega) (lm (a + b) 2)).set (k := 3) (by omega) (lm (a + b) 3)).same (y := lm (a + b)) (fun k hk => by
        have : k = 0 ∨ k = 1 ∨ k = 2 ∨ k = 3 := by omega
        rcases this with rfl | rfl | rfl | rfl <;> rfl)
      have hCF : Chg [] w ((((wr.setCell ⟨P + 1 + 1, 0, none⟩ (.int .u64 (lm (a + b) 0 : Nat))).setCell ⟨P + 1 + 1, 1, none⟩ (.int .u64 (lm (a + b) 1 : Nat))).setCell ⟨P + 1 + 1, 2, none⟩ (.int .u64 (lm (a + b) 2 : Nat))).setCell ⟨P + 1 + 1, 3, none⟩ (.int .u64 (lm (a + b) 3 : Nat))) :=
        (((hCW.setCell (Or.inr (by simp; omega)) _).setCell (Or.inr (by simp; omega)) _).setCell (Or.inr (by simp; omega)) _).setCell (Or.inr (by simp; omega)) _
      obtain ⟨W5, hW5⟩ : ∃ W5, ((((wr.setCell ⟨P + 1 + 1, 0, none⟩ (.int .u64 (lm (a + b) 0 : Nat))).setCell ⟨P + 1 + 1, 1, none⟩ (.int .u64 (lm (a + b) 1 : Nat))).setCell ⟨P + 1 + 1, 2, none⟩ (.int .u64 (lm (a + b) 2 : Nat))).setCell ⟨P + 1 + 1, 3, none⟩ (.int .u64 (lm (a + b) 3 : Nat))) = W5 := ⟨_, rfl⟩
      rw [hW5] at hF hCF
      have HF := Lib.hid hF; have HCF := Lib.hid hCF
      clear hO4 hR4 hCW hF hCF
      go_wp2_with fail
      obtain ⟨g0, g1, g2, g3⟩ := four4 fun _ => HF.out.cell
      exact bodyPost_ret (v := .tuple #[.agg (num (a + b)), .int .u64 (cry a b 4 : Nat)]) (by simp [results, Try.results99, go_sem, num, limbs, g0, g1, g2, g3]) rfl ⟨rfl, HCF.out⟩

/-- The borrow from limb k of a difference. -/
def bor (a b k : Nat) : Nat := if a % B6 ^ k < b % B6 ^ k then 1 else 0
theorem bor_le (a b k : Nat) : bor a b k ≤ 1 := by unfold bor; split <;> omega
theorem bor_zero (a b : Nat) : bor a b 0 = 0 := by simp [bor, Nat.mod_one]
theorem bor_succ (a b k : Nat) : bor a b (k + 1) = if lm a k < lm b k + bor a b k then 1 else 0 := by
  unfold bor
  have hp : 0 < B6 ^ k := Nat.pow_pos (by decide)
  rw [mod_succ, mod_succ]
  have h1 := Nat.mod_lt a hp
  have h2 := Nat.mod_lt b hp
  generalize a % B6 ^ k = x at *
  generalize b % B6 ^ k = y at *
  generalize lm a k = u at *
  generalize lm b k = v at *
  generalize B6 ^ k = P at *
  rcases Nat.lt_trichotomy u v with h | h | h
  · have : P * u + P ≤ P * v := by rw [← Nat.mul_succ]; exact Nat.mul_le_mul_left P h
    rw [if_pos (show x + P * u < y + P * v by omega), if_pos (by split <;> omega)]
  · subst h
    by_cases hxy : x < y
    · rw [if_pos (by omega), if_pos hxy, if_pos (by omega)]
    · rw [if_neg (by omega), if_neg hxy, if_neg (by omega)]
  · have : P * v + P ≤ P * u := by rw [← Nat.mul_succ]; exact Nat.mul_le_mul_left P h
    rw [if_neg (show ¬ x + P * u < y + P * v by omega), if_neg (by split <;> omega)]
theorem lm_sub (a b k : Nat) (hb : b ≤ B6 ^ 4) (hk : k < 4) : lm (a + B6 ^ 4 - b) k = (lm a k + 18446744073709551616 - lm b k - bor a b k) % 18446744073709551616 := by
  have hp : 0 < B6 ^ k := Nat.pow_pos (by decide)
  obtain ⟨j, hj⟩ : ∃ j, 4 = k + 1 + j := ⟨3 - k, by omega⟩
  have hM : B6 ^ 4 = B6 ^ k * (B6 * B6 ^ j) := by rw [hj, Nat.pow_add, Nat.pow_succ, Nat.mul_assoc]
  have ha := Nat.div_add_mod a (B6 ^ k)
  have hbb := Nat.div_add_mod b (B6 ^ k)
  have h1 := Nat.mod_lt a hp
  have h2 := Nat.mod_lt b hp
  have hle : b / B6 ^ k ≤ B6 * B6 ^ j := by
    rw [hM] at hb
    exact Nat.div_le_of_le_mul hb
  have hq : b / B6 ^ k + bor a b k ≤ a / B6 ^ k + B6 * B6 ^ j := by
    rw [hM] at hb
    unfold bor
    generalize B6 * B6 ^ j = J at *
    generalize B6 ^ k = P at *
    generalize a / P = qa at *
    generalize a % P = ra at *
    generalize b % P = rb at *
    generalize b / P = qb at *
    split
    · rename_i hlt
      have : qb ≠ J := by
        rintro rfl
        omega
      omega
    · omega
  have e : (a + B6 ^ 4 - b) / B6 ^ k = a / B6 ^ k + B6 * B6 ^ j - b / B6 ^ k - bor a b k := by
    rw [hM]
    revert hq
    unfold bor
    obtain ⟨P, hP⟩ : ∃ P, B6 ^ k = P := ⟨_, rfl⟩
    obtain ⟨J, hJ⟩ : ∃ J, B6 * B6 ^ j = J := ⟨_, rfl⟩
    rw [hP] at ha hbb h1 h2 hp hle ⊢
    rw [hJ] at hle ⊢
    generalize a / P = qa at *
    generalize b / P = qb at *
    generalize a % P = ra at *
    generalize b % P = rb at *
    by_cases hlt : ra < rb
    · rw [if_pos hlt]
      intro hq
      obtain ⟨q, hq2⟩ : ∃ q, qa + J = qb + 1 + q := ⟨qa + J - (qb + 1), by omega⟩
      have h3 : P * qa + P * J = P * qb + P + P * q := by rw [← Nat.mul_add, hq2, Nat.mul_add, Nat.mul_add, Nat.mul_one]
      have h4 : a + P * J - b = (P + ra - rb) + P * q := by omega
      rw [h4, Nat.add_mul_div_left _ _ hp, Nat.div_eq_of_lt (by omega)]
      omega
    · rw [if_neg hlt]
      intro hq
      obtain ⟨q, hq2⟩ : ∃ q, qa + J = qb + q := ⟨qa + J - qb, by omega⟩
      have h3 : P * qa + P * J = P * qb + P * q := by rw [← Nat.mul_add, hq2, Nat.mul_add]
      have h4 : a + P * J - b = (ra - rb) + P * q := by omega
      rw [h4, Nat.add_mul_div_left _ _ hp, Nat.div_eq_of_lt (by omega)]
      omega
  have hbl := bor_le a b k
  unfold lm
  rw [e]
  generalize bor a b k = c at *
  generalize a / B6 ^ k = qa at *
  generalize b / B6 ^ k = qb at *
  generalize B6 ^ j = J at *
  simp only [B6] at hq ⊢
  omega

set_option maxRecDepth 100000 in
set_option maxHeartbeats 2000000 in
theorem num_minus0 (a b d0 : Nat) (hd0 : ∀ k, k < 4 → lm d0 k = (lm a k + 18446744073709551616 - lm b k - bor a b k) % 18446744073709551616) (w : World) : Calls Try.prog 97 #[.agg (num a), .agg (num b)] w fun e w' =>
    e = .returned (.tuple #[.agg (num d0), .int .u64 (bor a b 4 : Nat)]) ∧ Chg [] w w' := by
  unfold num limbs
  have HD0 := Lib.hid hd0; clear hd0
  obtain ⟨W0, hW0⟩ : ∃ W0, (((w.alloc (.cells (limbs (lm a)) 129)).alloc (.cells (limbs (lm b)) 129)).alloc (.cells (limbs fun _ => 0) 129)).alloc (.cells (limbs fun _ => 0) 129) = W0 := ⟨_, rfl⟩
  have uA : U4 W0 w.heap.size 129 (lm a) := by rw [← hW0]; exact has_alloc (has_alloc (has_alloc (has_alloc_new _ _)))
  have uB : U4 W0 (w.heap.size + 1) 129 (lm b) := by rw [← hW0]; exact has_alloc (has_alloc (has_alloc_at (by simp)))
  have uR : U4 W0 (w.heap.size + 1 + 1) 129 (fun _ => 0) := by rw [← hW0]; exact has_alloc (has_alloc_at (by simp))
  have uO : U4 W0 (w.heap.size + 1 + 1 + 1) 129 (fun _ => 0) := by rw [← hW0]; exact has_alloc_at (by simp)
  have hC0 : Chg [] w W0 := by rw [← hW0]; exact ((((Chg.refl _ _).alloc _).alloc _).alloc _).alloc _
  have UA := Lib.hid uA; have UB := Lib.hid uB; have UR := Lib.hid uR; have UO := Lib.hid uO; have HC0 := Lib.hid hC0
  unfold limbs at hW0
  clear uA uB uR uO hC0
  go_enter Try.func97, Try.ntmps97
  go_wp2_with fail
  rw [show (((w.alloc (.cells #[.int .u64 (lm a 0 : Nat), .int .u64 (lm a 1 : Nat), .int .u64 (lm a 2 : Nat), .int .u64 (lm a 3 : Nat)] 129)).alloc (.cells #[.int .u64 (lm b 0 : Nat), .int .u64 (lm b 1 : Nat), .int .u64 (lm b 2 : Nat), .int .u64 (lm b 3 : Nat)] 129)).alloc (.cells #[.int .u64 0, .int .u64 0, .int .u64 0, .int .u64 0] 129)).alloc (.cells #[.int .u64 0, .int .u64 0, .int .u64 0, .int .u64 0] 129) = W0 from hW0]
  clear hW0
  obtain ⟨P, hP⟩ : ∃ P, w.heap.size = P := ⟨_, rfl⟩
  rw [hP] at UA UB UR UO ⊢
  go_loopw [7, 9] (fun c i wr => ∃ k : Nat, k ≤ 4 ∧ i = .int .i64 k ∧ c = .int .u64 (bor a b k : Nat) ∧ U4 wr (P + 1 + 1 + 1) 129 (fun j => if j < k then lm d0 j else 0) ∧ Chg [P + 1 + 1 + 1] W0 wr) (fun _ i _ => 4 - (intOf i).toNat)
  case atStart => exact ⟨0, by omega, rfl, by rw [bor_zero]; rfl, UO.out.same (fun k _ => by simp), Chg.refl _ _⟩
  case round =>
    obtain ⟨k, hk, rfl, rfl, hO, hC⟩ := hrel
    have HC := Lib.hid hC; have HO := Lib.hid hO
    clear hC hO
    by_cases hlt : k < 4
    · have cA := (UA.out.chg HC.out (by simp; omega)).cell hlt
      have cB := (UB.out.chg HC.out (by simp; try omega)).cell hlt
      have cO := HO.out.cell hlt
      have zO := HO.out.fz k
      have hll := HO.out.lt
      obtain ⟨x, hx⟩ : ∃ x, lm a k = x := ⟨_, rfl⟩
      obtain ⟨y, hy⟩ : ∃ y, lm b k = y := ⟨_, rfl⟩
      obtain ⟨c, hc⟩ : ∃ c, bor a b k = c := ⟨_, rfl⟩
      obtain ⟨s, hs⟩ : ∃ s, (x + 18446744073709551616 - y - c) % 18446744073709551616 = s := ⟨_, rfl⟩
      obtain ⟨d, hd⟩ : ∃ d : Nat, (if x < y + c then 1 else 0) = d := ⟨_, rfl⟩
      have hadd := fun w => sub64 x y c (by rw [← hc]; exact bor_le a b k) w
      have hS := bor_succ a b k
      have hL := HD0.out k hlt
      rw [hx, hy, hc, hd] at hS
      rw [hx, hy, hc, hs] at hL
      simp only [hs, hd] at hadd
      have HS := Lib.hid hS; have HL := Lib.hid hL
      rw [hx] at cA
      rw [hy] at cB
      rw [hc]
      clear hS hL hx hy hc hs hd
      go_wp2_with fail
      go_region
      go_wp2_with fail
      refine ⟨⟨k+1, by omega, by go_num, ?_, ?_, ?_⟩, by simp [intOf]; omega⟩
      · rw [HS.out]
      · refine (HO.out.set hlt s).same fun j hj => ?_
        by_cases e : j = k
        · subst e; simp [HL.out]
        · by_cases e2 : j < k
          · simp [e, e2, Nat.lt_succ_of_lt e2]
          · have : ¬ j < k + 1 := by omega
            simp [e, e2, this]
      · repeat (with_reducible first | exact HC.out | refine Chg.setCell ?_ (Or.inl (by simp)) _ | apply Chg.drew | apply Chg.drewN)
    · obtain rfl : k = 4 := by omega
      have hO4 := HO.out.same (y := lm d0) (fun k hk => by simp [hk])
      have hR4 := UR.out.chg HC.out (by simp)
      obtain ⟨o0, o1, o2, o3⟩ := four4 fun _ => hO4.cell
      obtain ⟨r0, r1, r2, r3⟩ := four4 fun _ => hR4.cell
      have z0 := hR4.fz 0; have z1 := hR4.fz 1; have z2 := hR4.fz 2; have z3 := hR4.fz 3
      have hCW := HC0.out.trans_new HC.out (by simp; omega)
      have HCW := Lib.hid hCW
      have hll := hR4.lt
      have hF := ((((hR4.set (k := 0) (by omega) (lm d0 0)).set (k := 1) (by omega) (lm d0 1)).set (k := 2) (by omega) (lm d0 2)).set (k := 3) (by omega) (lm d0 3)).same (y := lm d0) (fun k hk => by
        have : k = 0 ∨ k = 1 ∨ k = 2 ∨ k = 3 := by omega
        rcases this with rfl | rfl | rfl | rfl <;> rfl)
      have hCF : Chg [] w ((((wr.setCell ⟨P + 1 + 1, 0, none⟩ (.int .u64 (lm d0 0 : Nat))).setCell ⟨P + 1 + 1, 1, none⟩ (.int .u64 (lm d0 1 : Nat))).setCell ⟨P + 1 + 1, 2, none⟩ (.int .u64 (lm d0 2 : Nat))).setCell ⟨P + 1 + 1, 3, none⟩ (.int .u64 (lm d0 3 : Nat))) :=
        (((hCW.setCell (Or.inr (by simp; omega)) _).setCell (Or.inr (by simp; omega)) _).setCell (Or.inr (by simp; omega)) _).setCell (Or.inr (by simp; omega)) _
      obtain ⟨W5, hW5⟩ : ∃ W5, ((((wr.setCell ⟨P + 1 + 1, 0, none⟩ (.int .u64 (lm d0 0 : Nat))).setCell ⟨P + 1 + 1, 1, none⟩ (.int .u64 (lm d0 1 : Nat))).setCell ⟨P + 1 + 1, 2, none⟩ (.int .u64 (lm d0 2 : Nat))).setCell ⟨P + 1 + 1, 3, none⟩ (.int .u64 (lm d0 3 : Nat))) = W5 := ⟨_, rfl⟩
      rw [hW5] at hF hCF
      have HF := Lib.hid hF; have HCF := Lib.hid hCF
      clear hO4 hR4 hCW hF hCF
      go_wp2_with fail
      obtain ⟨g0, g1, g2, g3⟩ := four4 fun _ => HF.out.cell
      exact bodyPost_ret (v := .tuple #[.agg (num d0), .int .u64 (bor a b 4 : Nat)]) (by simp [results, Try.results97, go_sem, num, limbs, g0, g1, g2, g3]) rfl ⟨rfl, HCF.out⟩

theorem num_minus (a b : Nat) (hb : b ≤ B6 ^ 4) (w : World) : Calls Try.prog 97 #[.agg (num a), .agg (num b)] w fun e w' =>
    e = .returned (.tuple #[.agg (num (a + B6 ^ 4 - b)), .int .u64 (bor a b 4 : Nat)]) ∧ Chg [] w w' :=
  num_minus0 a b _ (fun k hk => lm_sub a b k hb hk) w

end Go.Proofs.Ytplldbmjdnikeaa

/- The walks of limb.Add, Sub, carry, Cmp. -/
namespace Go.Proofs.Ytplldbmjdnikeaa
set_option linter.unusedVariables false
set_option linter.unusedSimpArgs false
open Go.RowKit

/-- Four stores. -/
def put4 (w : World) (b : Nat) (y : Nat → Nat) : World := (((w.setCell ⟨b, 0, none⟩ (.int .u64 (y 0 : Nat))).setCell ⟨b, 1, none⟩ (.int .u64 (y 1 : Nat))).setCell ⟨b, 2, none⟩ (.int .u64 (y 2 : Nat))).setCell ⟨b, 3, none⟩ (.int .u64 (y 3 : Nat))
theorem U4.put {w : World} {b : Nat} {t : TypeId} {x : Nat → Nat} (h : U4 w b t x) (y : Nat → Nat) : U4 (put4 w b y) b t y :=
  ((((h.set (k := 0) (by omega) (y 0)).set (k := 1) (by omega) (y 1)).set (k := 2) (by omega) (y 2)).set (k := 3) (by omega) (y 3)).same (fun k hk => by
    have : k = 0 ∨ k = 1 ∨ k = 2 ∨ k = 3 := by omega
    rcases this with rfl | rfl | rfl | rfl <;> rfl)
theorem Chg.put4 {S : List Nat} {a w : World} (h : Chg S a w) {b : Nat} (hb : b ∈ S ∨ a.heap.size ≤ b) (y : Nat → Nat) : Chg S a (Go.Proofs.Ytplldbmjdnikeaa.put4 w b y) :=
  (((h.setCell hb _).setCell hb _).setCell hb _).setCell hb _

theorem num_plus' (a b : Nat) (w : World) : Calls Try.prog 99 #[.agg #[.int .u64 (lm a 0 : Nat), .int .u64 (lm a 1 : Nat), .int .u64 (lm a 2 : Nat), .int .u64 (lm a 3 : Nat)], .agg #[.int .u64 (lm b 0 : Nat), .int .u64 (lm b 1 : Nat), .int .u64 (lm b 2 : Nat), .int .u64 (lm b 3 : Nat)]] w fun e w' =>
    e = .returned (.tuple #[.agg #[.int .u64 (lm (a + b) 0 : Nat), .int .u64 (lm (a + b) 1 : Nat), .int .u64 (lm (a + b) 2 : Nat), .int .u64 (lm (a + b) 3 : Nat)], .int .u64 (cry a b 4 : Nat)]) ∧ Chg [] w w' := num_plus a b w
theorem num_minus' (a b d : Nat) (hd : d = a + B6 ^ 4 - b) (hb : b ≤ B6 ^ 4) (w : World) : Calls Try.prog 97 #[.agg #[.int .u64 (lm a 0 : Nat), .int .u64 (lm a 1 : Nat), .int .u64 (lm a 2 : Nat), .int .u64 (lm a 3 : Nat)], .agg #[.int .u64 (lm b 0 : Nat), .int .u64 (lm b 1 : Nat), .int .u64 (lm b 2 : Nat), .int .u64 (lm b 3 : Nat)]] w fun e w' =>
    e = .returned (.tuple #[.agg #[.int .u64 (lm d 0 : Nat), .int .u64 (lm d 1 : Nat), .int .u64 (lm d 2 : Nat), .int .u64 (lm d 3 : Nat)], .int .u64 (bor a b 4 : Nat)]) ∧ Chg [] w w' := by
  rw [hd]; exact num_minus a b hb w

set_option maxRecDepth 100000 in
set_option maxHeartbeats 2000000 in
theorem limb_add (a b : Nat) (w : World) : Calls Try.prog 84 #[.agg (num a), .agg (num b)] w fun e w' =>
    e = .returned (.tuple #[.agg (num (a + b)), .int .u64 (cry a b 4 : Nat)]) ∧ Chg [] w w' := by
  unfold num limbs
  have hp := fun w => num_plus' a b w
  have HP := Lib.hid hp
  clear hp
  go_enter Try.func84, Try.ntmps84
  go_wp2_with fail
  refine (HP.out _).mono ?_
  rintro e w1 ⟨rfl, hC1⟩
  have hC2 : Chg [] w w1 := Chg.trans (by repeat (with_reducible first | exact Chg.refl _ _ | apply Chg.alloc)) hC1
  have hR : U4 w1 (w.heap.size + 1 + 1) 24 (fun _ => 0) := hC1.has (has_alloc_at (by simp)) (by simp)
  obtain ⟨s, hs⟩ : ∃ s, a + b = s := ⟨_, rfl⟩
  rw [hs]
  obtain ⟨r0, r1, r2, r3⟩ := four4 fun _ => hR.cell
  have z0 := hR.fz 0; have z1 := hR.fz 1; have z2 := hR.fz 2; have z3 := hR.fz 3
  have hll := hR.lt
  have HR := Lib.hid hR; have HC2 := Lib.hid hC2; have HS := Lib.hid hs
  clear hR hC2 hC1 hs HP
  go_wp2_with fail
  have hF := (HR.out.put (lm s)).chg ((Chg.refl [] _).alloc (.cells (limbs (lm s)) 129)) (by simp)
  have hCF := ((HC2.out.put4 (b := w.heap.size + 1 + 1) (Or.inr (by omega)) (lm s))).alloc (.cells (limbs (lm s)) 129)
  refine (id ?_ : bodyPost _ _ _ _ _ ((put4 w1 (w.heap.size + 1 + 1) (lm s)).alloc (.cells (limbs (lm s)) 129)))
  generalize (put4 w1 (w.heap.size + 1 + 1) (lm s)).alloc (.cells (limbs (lm s)) 129) = W5 at *
  obtain ⟨g0, g1, g2, g3⟩ := four4 fun _ => hF.cell
  refine bodyPost_ret (v := .tuple #[.agg (num s), .int .u64 (cry a b 4 : Nat)]) (by simp [results, Try.results84, go_sem, num, limbs, g0, g1, g2, g3]) rfl ⟨?_, hCF⟩
  rw [HS.out]; rfl

set_option maxRecDepth 100000 in
set_option maxHeartbeats 2000000 in
theorem limb_sub0 (a b d : Nat) (hd : d = a + B6 ^ 4 - b) (hb : b ≤ B6 ^ 4) (w : World) : Calls Try.prog 85 #[.agg (num a), .agg (num b)] w fun e w' =>
    e = .returned (.tuple #[.agg (num d), .int .u64 (bor a b 4 : Nat)]) ∧ Chg [] w w' := by
  unfold num limbs
  have hp := fun w => num_minus' a b d hd hb w
  have HP := Lib.hid hp
  clear hp
  go_enter Try.func85, Try.ntmps85
  go_wp2_with fail
  refine (HP.out _).mono ?_
  rintro e w1 ⟨rfl, hC1⟩
  have hC2 : Chg [] w w1 := Chg.trans (by repeat (with_reducible first | exact Chg.refl _ _ | apply Chg.alloc)) hC1
  have hR : U4 w1 (w.heap.size + 1 + 1) 24 (fun _ => 0) := hC1.has (has_alloc_at (by simp)) (by simp)
  obtain ⟨s, hs⟩ : ∃ s, d = s := ⟨_, rfl⟩
  rw [hs]
  obtain ⟨r0, r1, r2, r3⟩ := four4 fun _ => hR.cell
  have z0 := hR.fz 0; have z1 := hR.fz 1; have z2 := hR.fz 2; have z3 := hR.fz 3
  have hll := hR.lt
  have HR := Lib.hid hR; have HC2 := Lib.hid hC2; have HS := Lib.hid hs
  clear hR hC2 hC1 hs HP
  go_wp2_with fail
  have hF := (HR.out.put (lm s)).chg ((Chg.refl [] _).alloc (.cells (limbs (lm s)) 129)) (by simp)
  have hCF := ((HC2.out.put4 (b := w.heap.size + 1 + 1) (Or.inr (by omega)) (lm s))).alloc (.cells (limbs (lm s)) 129)
  refine (id ?_ : bodyPost _ _ _ _ _ ((put4 w1 (w.heap.size + 1 + 1) (lm s)).alloc (.cells (limbs (lm s)) 129)))
  generalize (put4 w1 (w.heap.size + 1 + 1) (lm s)).alloc (.cells (limbs (lm s)) 129) = W5 at *
  obtain ⟨g0, g1, g2, g3⟩ := four4 fun _ => hF.cell
  refine bodyPost_ret (v := .tuple #[.agg (num s), .int .u64 (bor a b 4 : Nat)]) (by simp [results, Try.results85, go_sem, num, limbs, g0, g1, g2, g3]) rfl ⟨?_, hCF⟩
  rw [HS.out]; rfl

theorem limb_sub (a b : Nat) (hb : b ≤ B6 ^ 4) (w : World) : Calls Try.prog 85 #[.agg (num a), .agg (num b)] w fun e w' =>
    e = .returned (.tuple #[.agg (num (a + B6 ^ 4 - b)), .int .u64 (bor a b 4 : Nat)]) ∧ Chg [] w w' := limb_sub0 a b _ rfl hb w

theorem bor4 {a b : Nat} (ha : a < B6 ^ 4) (hb : b < B6 ^ 4) : bor a b 4 = if a < b then 1 else 0 := by
  unfold bor; rw [Nat.mod_eq_of_lt ha, Nat.mod_eq_of_lt hb]

set_option maxRecDepth 100000 in
set_option maxHeartbeats 2000000 in
theorem limb_carry (a b : Nat) (hb : b ≤ B6 ^ 4) (w : World) : Calls Try.prog 96 #[.func (.func 97) #[] #[], .agg (num a), .agg (num b)] w fun e w' =>
    e = .returned (.int .u64 (bor a b 4 : Nat)) ∧ Chg [] w w' := by
  unfold num limbs
  have hp := fun w => num_minus' a b _ rfl hb w
  have HP := Lib.hid hp
  clear hp
  go_enter Try.func96, Try.ntmps96
  go_wp2_with fail
  refine (HP.out _).mono ?_
  generalize a + B6 ^ 4 - b = d
  rintro e w1 ⟨rfl, hC1⟩
  have hC2 : Chg [] w w1 := Chg.trans (by repeat (with_reducible first | exact Chg.refl _ _ | apply Chg.alloc)) hC1
  have HC2 := Lib.hid hC2
  clear hC1 hC2 HP
  go_wp2_with fail
  go_ret
  refine ⟨rfl, ?_⟩
  repeat (with_reducible first | exact HC2.out | apply Chg.alloc)

/-- What Cmp tells. -/
def cmpN (a b : Nat) : Int := (bor b a 4 : Nat) - (bor a b 4 : Nat)

set_option maxRecDepth 100000 in
set_option maxHeartbeats 2000000 in
theorem limb_cmp (a b : Nat) (ha : a ≤ B6 ^ 4) (hb : b ≤ B6 ^ 4) (w : World) : Calls Try.prog 78 #[.agg (num a), .agg (num b)] w fun e w' =>
    e = .returned (.int .i64 (cmpN a b)) ∧ Chg [] w w' := by
  have h1 := fun w => limb_carry a b hb w
  have h2 := fun w => limb_carry b a ha w
  have hc1 := bor_le a b 4
  have hc2 := bor_le b a 4
  unfold cmpN
  generalize bor a b 4 = c at *
  generalize bor b a 4 = d at *
  unfold num limbs at *
  have H1 := Lib.hid h1; have H2 := Lib.hid h2
  clear h1 h2
  obtain ⟨W0, hW0⟩ : ∃ W0, (w.alloc (.cells (limbs (lm a)) 24)).alloc (.cells (limbs (lm b)) 24) = W0 := ⟨_, rfl⟩
  have uA : U4 W0 w.heap.size 24 (lm a) := by rw [← hW0]; exact has_alloc (has_alloc_new _ _)
  have uB : U4 W0 (w.heap.size + 1) 24 (lm b) := by rw [← hW0]; exact has_alloc_at (by simp)
  have hC0 : Chg [] w W0 := by rw [← hW0]; exact ((Chg.refl _ _).alloc _).alloc _
  unfold limbs at hW0
  obtain ⟨a0, a1, a2, a3⟩ := four4 fun _ => uA.cell
  obtain ⟨b0, b1, b2, b3⟩ := four4 fun _ => uB.cell
  have UA := Lib.hid uA; have UB := Lib.hid uB; have HC0 := Lib.hid hC0
  clear uA uB hC0
  go_enter Try.func78, Try.ntmps78
  go_wp2_with fail
  refine (H1.out _).mono ?_
  rintro e w1 ⟨rfl, hC1⟩
  have vA := UA.out.chg hC1 (by simp)
  have vB := UB.out.chg hC1 (by simp)
  have hC01 := HC0.out.trans hC1
  clear hW0 a0 a1 a2 a3 b0 b1 b2 b3 UA UB HC0 hC1
  obtain ⟨a0, a1, a2, a3⟩ := four4 fun _ => vA.cell
  obtain ⟨b0, b1, b2, b3⟩ := four4 fun _ => vB.cell
  have HC1 := Lib.hid hC01
  clear vA vB hC01
  go_wp2_with fail
  refine (H2.out _).mono ?_
  rintro e w2 ⟨rfl, hC2⟩
  have HC2 := Lib.hid (HC1.out.trans hC2)
  clear hC2 a0 a1 a2 a3 b0 b1 b2 b3
  have w1' : IntKind.i64.wrap ((d : Int) - c) = d - c := IntWalk.i64_in _ (by omega)
  go_wp2_with fail
  go_ret
  exact ⟨rfl, HC2.out⟩

end Go.Proofs.Ytplldbmjdnikeaa

/- The walk of limb.Select. -/
namespace Go.Proofs.Ytplldbmjdnikeaa
set_option linter.unusedVariables false
set_option linter.unusedSimpArgs false
open Go.RowKit

theorem and_full (x : Nat) (hx : x < 18446744073709551616) : bits .and .u64 (x : Int) 18446744073709551615 = x := by
  have h := bits_and_u64_nat x 18446744073709551615 hx (by omega)
  have e : x &&& 18446744073709551615 = x % 18446744073709551616 := Nat.and_two_pow_sub_one_eq_mod x 64
  rw [e, Nat.mod_eq_of_lt hx] at h
  exact h
theorem andNot_full (y : Int) : bits .andNot .u64 y 18446744073709551615 = 0 := by
  show IntKind.u64.wrap ((BitVec.ofInt 64 y &&& ~~~ BitVec.ofInt 64 18446744073709551615).toNat : Int) = 0
  have : ~~~ BitVec.ofInt 64 18446744073709551615 = 0#64 := by decide
  rw [this, BitVec.and_zero]
  rfl
theorem or_zero (x : Nat) (hx : x < 18446744073709551616) : bits .or .u64 (x : Int) 0 = x := by
  have h := bits_or_u64_nat x 0 hx (by omega)
  rw [Nat.or_zero] at h
  exact h

set_option maxRecDepth 100000 in
set_option maxHeartbeats 2000000 in
theorem limb_select1 (a b : Nat) (w : World) : Calls Try.prog 86 #[.int .u64 1, .agg (num a), .agg (num b)] w fun e w' =>
    e = .returned (.agg (num a)) ∧ Chg [] w w' := by
  unfold num limbs
  obtain ⟨W0, hW0⟩ : ∃ W0, (((w.alloc (.cells (limbs (lm a)) 24)).alloc (.cells (limbs (lm b)) 24)).alloc (.cells (limbs fun _ => 0) 24)).alloc (.cells (limbs fun _ => 0) 24) = W0 := ⟨_, rfl⟩
  have uA : U4 W0 w.heap.size 24 (lm a) := by rw [← hW0]; exact has_alloc (has_alloc (has_alloc (has_alloc_new _ _)))
  have uB : U4 W0 (w.heap.size + 1) 24 (lm b) := by rw [← hW0]; exact has_alloc (has_alloc (has_alloc_at (by simp)))
  have uR : U4 W0 (w.heap.size + 1 + 1) 24 (fun _ => 0) := by rw [← hW0]; exact has_alloc (has_alloc_at (by simp))
  have uO : U4 W0 (w.heap.size + 1 + 1 + 1) 24 (fun _ => 0) := by rw [← hW0]; exact has_alloc_at (by simp)
  have hC0 : Chg [] w W0 := by rw [← hW0]; exact ((((Chg.refl _ _).alloc _).alloc _).alloc _).alloc _
  have UA := Lib.hid uA; have UB := Lib.hid uB; have UR := Lib.hid uR; have UO := Lib.hid uO; have HC0 := Lib.hid hC0
  unfold limbs at hW0
  clear uA uB uR uO hC0
  have hm : IntKind.u64.wrap (-bits BinOp.and IntKind.u64 1 1) = 18446744073709551615 := by kernel_rfl
  go_enter Try.func86, Try.ntmps86
  go_wp2_with fail
  rw [show (((w.alloc (.cells #[.int .u64 (lm a 0 : Nat), .int .u64 (lm a 1 : Nat), .int .u64 (lm a 2 : Nat), .int .u64 (lm a 3 : Nat)] 24)).alloc (.cells #[.int .u64 (lm b 0 : Nat), .int .u64 (lm b 1 : Nat), .int .u64 (lm b 2 : Nat), .int .u64 (lm b 3 : Nat)] 24)).alloc (.cells #[.int .u64 0, .int .u64 0, .int .u64 0, .int .u64 0] 24)).alloc (.cells #[.int .u64 0, .int .u64 0, .int .u64 0, .int .u64 0] 24) = W0 from hW0]
  clear hW0 hm
  obtain ⟨P, hP⟩ : ∃ P, w.heap.size = P := ⟨_, rfl⟩
  rw [hP] at UA UB UR UO ⊢
  go_loopw [13] (fun i wr => ∃ k : Nat, k ≤ 4 ∧ i = .int .i64 k ∧ U4 wr (P + 1 + 1 + 1) 24 (fun j => if j < k then lm a j else 0) ∧ Chg [P + 1 + 1 + 1] W0 wr) (fun i _ => 4 - (intOf i).toNat)
  case atStart => exact ⟨0, by omega, rfl, UO.out.same (fun k _ => by simp), Chg.refl _ _⟩
  case round =>
    obtain ⟨k, hk, rfl, hO, hC⟩ := hrel
    have HC := Lib.hid hC; have HO := Lib.hid hO
    clear hC hO
    by_cases hlt : k < 4
    · have cA := (UA.out.chg HC.out (by simp; omega)).cell hlt
      have cB := (UB.out.chg HC.out (by simp; try omega)).cell hlt
      have cO := HO.out.cell hlt
      have zO := HO.out.fz k
      have hll := HO.out.lt
      have hxl := lm_lt a k
      obtain ⟨x, hx⟩ : ∃ x, lm a k = x := ⟨_, rfl⟩
      obtain ⟨y, hy⟩ : ∃ y, lm b k = y := ⟨_, rfl⟩
      rw [hx] at cA hxl
      rw [hy] at cB
      have HX := Lib.hid hx
      have f1 := and_full x hxl
      have f2 := andNot_full y
      have f3 := or_zero x hxl
      clear hx hy
      go_wp2_with fail
      go_region
      go_wp2_with fail
      refine ⟨⟨k+1, by omega, by go_num, ?_, ?_⟩, by simp [intOf]; omega⟩
      · refine ((HO.out.set hlt x).same fun j hj => ?_)
        by_cases e : j = k
        · subst e; simp [HX.out]
        · by_cases e2 : j < k
          · simp [e, e2, Nat.lt_succ_of_lt e2]
          · have : ¬ j < k + 1 := by omega
            simp [e, e2, this]
      · repeat (with_reducible first | exact HC.out | refine Chg.setCell ?_ (Or.inl (by simp)) _ | apply Chg.drew | apply Chg.drewN)
    · obtain rfl : k = 4 := by omega
      have hO4 := HO.out.same (y := lm a) (fun k hk => by simp [hk])
      have hR4 := UR.out.chg HC.out (by simp)
      obtain ⟨o0, o1, o2, o3⟩ := four4 fun _ => hO4.cell
      obtain ⟨r0, r1, r2, r3⟩ := four4 fun _ => hR4.cell
      have z0 := hR4.fz 0; have z1 := hR4.fz 1; have z2 := hR4.fz 2; have z3 := hR4.fz 3
      have hCW := HC0.out.trans_new HC.out (by simp; omega)
      have hll := hR4.lt
      have HF := Lib.hid (hR4.put (lm a)); have HCF := Lib.hid (hCW.put4 (b := P + 1 + 1) (Or.inr (by omega)) (lm a))
      clear hO4 hR4 hCW
      go_wp2_with fail
      have hF := HF.out
      have hCF := HCF.out
      refine (id ?_ : bodyPost _ _ _ _ _ (put4 wr (P + 1 + 1) (lm a)))
      clear HF HCF
      generalize put4 wr (P + 1 + 1) (lm a) = W5 at *
      obtain ⟨g0, g1, g2, g3⟩ := four4 fun _ => hF.cell
      exact bodyPost_ret (v := .agg (num a)) (by simp [results, Try.results86, go_sem, num, limbs, g0, g1, g2, g3]) rfl ⟨rfl, hCF⟩

theorem and_zero (x : Nat) : bits .and .u64 (x : Int) 0 = 0 := by
  show IntKind.u64.wrap ((BitVec.ofInt 64 (x : Int) &&& BitVec.ofInt 64 0).toNat : Int) = 0
  have : BitVec.ofInt 64 0 = 0#64 := by decide
  rw [this, BitVec.and_zero]
  rfl
theorem andNot_zero (y : Nat) (hy : y < 18446744073709551616) : bits .andNot .u64 (y : Int) 0 = y := by
  show IntKind.u64.wrap ((BitVec.ofInt 64 (y : Int) &&& ~~~ BitVec.ofInt 64 0).toNat : Int) = y
  have : ~~~ BitVec.ofInt 64 0 = BitVec.allOnes 64 := by decide
  rw [this, BitVec.and_allOnes, BitVec.ofInt_natCast, BitVec.toNat_ofNat, Nat.mod_eq_of_lt (by omega), IntKind.wrap_u64]
  omega
theorem zero_or (x : Nat) (hx : x < 18446744073709551616) : bits .or .u64 0 (x : Int) = x := by
  have h := bits_or_u64_nat 0 x (by omega) hx
  rw [Nat.zero_or] at h
  exact h

set_option maxRecDepth 100000 in
set_option maxHeartbeats 2000000 in
theorem limb_select0 (a b : Nat) (w : World) : Calls Try.prog 86 #[.int .u64 0, .agg (num a), .agg (num b)] w fun e w' =>
    e = .returned (.agg (num b)) ∧ Chg [] w w' := by
  unfold num limbs
  obtain ⟨W0, hW0⟩ : ∃ W0, (((w.alloc (.cells (limbs (lm a)) 24)).alloc (.cells (limbs (lm b)) 24)).alloc (.cells (limbs fun _ => 0) 24)).alloc (.cells (limbs fun _ => 0) 24) = W0 := ⟨_, rfl⟩
  have uA : U4 W0 w.heap.size 24 (lm a) := by rw [← hW0]; exact has_alloc (has_alloc (has_alloc (has_alloc_new _ _)))
  have uB : U4 W0 (w.heap.size + 1) 24 (lm b) := by rw [← hW0]; exact has_alloc (has_alloc (has_alloc_at (by simp)))
  have uR : U4 W0 (w.heap.size + 1 + 1) 24 (fun _ => 0) := by rw [← hW0]; exact has_alloc (has_alloc_at (by simp))
  have uO : U4 W0 (w.heap.size + 1 + 1 + 1) 24 (fun _ => 0) := by rw [← hW0]; exact has_alloc_at (by simp)
  have hC0 : Chg [] w W0 := by rw [← hW0]; exact ((((Chg.refl _ _).alloc _).alloc _).alloc _).alloc _
  have UA := Lib.hid uA; have UB := Lib.hid uB; have UR := Lib.hid uR; have UO := Lib.hid uO; have HC0 := Lib.hid hC0
  unfold limbs at hW0
  clear uA uB uR uO hC0
  have hm : IntKind.u64.wrap (-bits BinOp.and IntKind.u64 0 1) = 0 := by kernel_rfl
  go_enter Try.func86, Try.ntmps86
  go_wp2_with fail
  rw [show (((w.alloc (.cells #[.int .u64 (lm a 0 : Nat), .int .u64 (lm a 1 : Nat), .int .u64 (lm a 2 : Nat), .int .u64 (lm a 3 : Nat)] 24)).alloc (.cells #[.int .u64 (lm b 0 : Nat), .int .u64 (lm b 1 : Nat), .int .u64 (lm b 2 : Nat), .int .u64 (lm b 3 : Nat)] 24)).alloc (.cells #[.int .u64 0, .int .u64 0, .int .u64 0, .int .u64 0] 24)).alloc (.cells #[.int .u64 0, .int .u64 0, .int .u64 0, .int .u64 0] 24) = W0 from hW0]
  clear hW0 hm
  obtain ⟨P, hP⟩ : ∃ P, w.heap.size = P := ⟨_, rfl⟩
  rw [hP] at UA UB UR UO ⊢
  go_loopw [13] (fun i wr => ∃ k : Nat, k ≤ 4 ∧ i = .int .i64 k ∧ U4 wr (P + 1 + 1 + 1) 24 (fun j => if j < k then lm b j else 0) ∧ Chg [P + 1 + 1 + 1] W0 wr) (fun i _ => 4 - (intOf i).toNat)
  case atStart => exact ⟨0, by omega, rfl, UO.out.same (fun k _ => by simp), Chg.refl _ _⟩
  case round =>
    obtain ⟨k, hk, rfl, hO, hC⟩ := hrel
    have HC := Lib.hid hC; have HO := Lib.hid hO
    clear hC hO
    by_cases hlt : k < 4
    · have cA := (UA.out.chg HC.out (by simp; omega)).cell hlt
      have cB := (UB.out.chg HC.out (by simp; try omega)).cell hlt
      have cO := HO.out.cell hlt
      have zO := HO.out.fz k
      have hll := HO.out.lt
      have hxl := lm_lt b k
      obtain ⟨x, hx⟩ : ∃ x, lm a k = x := ⟨_, rfl⟩
      obtain ⟨y, hy⟩ : ∃ y, lm b k = y := ⟨_, rfl⟩
      rw [hx] at cA
      rw [hy] at cB hxl
      have HX := Lib.hid hy
      have f1 := and_zero x
      have f2 := andNot_zero y hxl
      have f3 := zero_or y hxl
      clear hx hy
      go_wp2_with fail
      go_region
      go_wp2_with fail
      refine ⟨⟨k+1, by omega, by go_num, ?_, ?_⟩, by simp [intOf]; omega⟩
      · refine ((HO.out.set hlt y).same fun j hj => ?_)
        by_cases e : j = k
        · subst e; simp [HX.out]
        · by_cases e2 : j < k
          · simp [e, e2, Nat.lt_succ_of_lt e2]
          · have : ¬ j < k + 1 := by omega
            simp [e, e2, this]
      · repeat (with_reducible first | exact HC.out | refine Chg.setCell ?_ (Or.inl (by simp)) _ | apply Chg.drew | apply Chg.drewN)
    · obtain rfl : k = 4 := by omega
      have hO4 := HO.out.same (y := lm b) (fun k hk => by simp [hk])
      have hR4 := UR.out.chg HC.out (by simp)
      obtain ⟨o0, o1, o2, o3⟩ := four4 fun _ => hO4.cell
      obtain ⟨r0, r1, r2, r3⟩ := four4 fun _ => hR4.cell
      have z0 := hR4.fz 0; have z1 := hR4.fz 1; have z2 := hR4.fz 2; have z3 := hR4.fz 3
      have hCW := HC0.out.trans_new HC.out (by simp; omega)
      have hll := hR4.lt
      have HF := Lib.hid (hR4.put (lm b)); have HCF := Lib.hid (hCW.put4 (b := P + 1 + 1) (Or.inr (by omega)) (lm b))
      clear hO4 hR4 hCW
      go_wp2_with fail
      have hF := HF.out
      have hCF := HCF.out
      refine (id ?_ : bodyPost _ _ _ _ _ (put4 wr (P + 1 + 1) (lm b)))
      clear HF HCF
      generalize put4 wr (P + 1 + 1) (lm b) = W5 at *
      obtain ⟨g0, g1, g2, g3⟩ := four4 fun _ => hF.cell
      exact bodyPost_ret (v := .agg (num b)) (by simp [results, Try.results86, go_sem, num, limbs, g0, g1, g2, g3]) rfl ⟨rfl, hCF⟩

theorem limb_select (t : Nat) (ht : t ≤ 1) (a b : Nat) (w : World) : Calls Try.prog 86 #[.int .u64 (t : Nat), .agg (num a), .agg (num b)] w fun e w' =>
    e = .returned (.agg (num (if t = 1 then a else b))) ∧ Chg [] w w' := by
  have : t = 0 ∨ t = 1 := by omega
  rcases this with rfl | rfl
  · exact limb_select0 a b w
  · exact limb_select1 a b w

end Go.Proofs.Ytplldbmjdnikeaa

/- The walk of limb.Bit. -/
namespace Go.Proofs.Ytplldbmjdnikeaa
set_option linter.unusedVariables false
set_option linter.unusedSimpArgs false
open Go.RowKit

theorem bit_nat (a i k r : Nat) (hk : i / 64 = k) (hr : i % 64 = r) : lm a k / 2 ^ r % 2 = a / 2 ^ i % 2 := by
  have hr64 : r < 64 := by omega
  have e64 : B6 = 2 ^ r * 2 ^ (64 - r) := by rw [← Nat.pow_add, show r + (64 - r) = 64 by omega]
  have ek : B6 ^ k = 2 ^ (64 * k) := by rw [show B6 = 2 ^ 64 from rfl, ← Nat.pow_mul]
  have hd : 2 ∣ 2 ^ (64 - r) := ⟨2 ^ (63 - r), by rw [show 64 - r = (63 - r) + 1 by omega, Nat.pow_succ, Nat.mul_comm]⟩
  unfold lm
  rw [e64, Nat.mod_mul_right_div_self, Nat.mod_mod_of_dvd _ hd, ← e64, ek, Nat.div_div_eq_div_mul, ← Nat.pow_add, show 64 * k + r = i by omega]
theorem bit_int (a i k r : Nat) (hk : i / 64 = k) (hr : i % 64 = r) : bits .and .u64 ((lm a k : Int) / 2 ^ r) 1 = ((a / 2 ^ i % 2 : Nat) : Int) := by
  have hl := lm_lt a k
  have h := bits_and_u64_nat (lm a k / 2 ^ r) 1 (Nat.lt_of_le_of_lt (Nat.div_le_self _ _) hl) (by omega)
  rw [Nat.and_one_is_mod, bit_nat a i k r hk hr] at h
  rw [← h]
  congr 1

set_option maxRecDepth 100000 in
set_option maxHeartbeats 1000000 in
theorem limb_bit0 (a i : Nat) (hi : i < 256) (w : World) : Calls Try.prog 81 #[.agg (num a), .int .i64 (i : Nat)] w fun e w' =>
    e = .returned (.int .u64 (a / 2 ^ i % 2 : Nat)) ∧ Chg [] w w' := by
  unfold num limbs
  obtain ⟨W0, hW0⟩ : ∃ W0, w.alloc (.cells (limbs (lm a)) 24) = W0 := ⟨_, rfl⟩
  have uA : U4 W0 w.heap.size 24 (lm a) := by rw [← hW0]; exact has_alloc_new _ _
  have hC0 : Chg [] w W0 := by rw [← hW0]; exact (Chg.refl _ _).alloc _
  obtain ⟨k, hk⟩ : ∃ k, i / 64 = k := ⟨_, rfl⟩
  obtain ⟨r, hr⟩ : ∃ r, i % 64 = r := ⟨_, rfl⟩
  have hk4 : k < 4 := by omega
  have hr64 : r < 64 := by omega
  have cA := uA.cell hk4
  have e1 : (i : Int).tdiv 64 = k := by rw [Int.tdiv_eq_ediv_of_nonneg (by omega)]; omega
  have e2 : (i : Int).tmod 64 = r := by rw [Int.tmod_eq_emod_of_nonneg (by omega)]; omega
  have HC0 := Lib.hid hC0
  unfold limbs at hW0
  clear uA hC0
  go_enter Try.func81, Try.ntmps81
  have HB := Lib.hid (bit_int a i k r hk hr)
  clear hk hr
  go_wp2_with fail
  go_ret
  refine ⟨?_, HC0.out⟩
  rw [← HB.out]; rfl

end Go.Proofs.Ytplldbmjdnikeaa
