/- Numbers of bytes: plain, and the walks of limb.FromBytes, wardmoteref01.FromBytes. Printed by byteb.py. -/
import Derived.Test.YtplldbmjdnikeaaByteA
import Derived.Test.YtplldbmjdnikeaaLb2
import Derived.Test.YtplldbmjdnikeaaLb3
import Derived.Laws.Bits64b
namespace Go.Proofs.Ytplldbmjdnikeaa
set_option linter.unusedVariables false
set_option linter.unusedSimpArgs false
open Go.RowKit

/-- A string's byte. -/
def sb (l : List UInt8) (i : Nat) : Nat := (l.getD i 0).toNat
theorem sb_lt (l : List UInt8) (i : Nat) : sb l i < 256 := (l.getD i 0).toNat_lt
theorem index_sb {l : List UInt8} {j : Nat} (hj : j < l.length) (w : World) : (Instr.index 9 (.string ⟨l.toArray⟩) (.int .i64 (j : Nat))).run Try.prog w = .ok (.int .u8 (sb l j : Nat)) w := by
  rw [run_index_string (h := Try.underlying9), dif_pos (by simp [ByteArray.size_mk']; omega)]
  have e : ((⟨l.toArray⟩ : ByteArray)[(j : Int).toNat]'(by simp [ByteArray.size_mk']; omega)) = l.getD j 0 := by
    rw [List.getD_eq_getElem?_getD, List.getElem?_eq_getElem hj]
    rfl
  rw [e]
  rfl
/-- The lowest t bytes of limb k. -/
def hb (l : List UInt8) (k : Nat) : Nat → Nat
  | 0 => 0
  | t + 1 => hb l k t + sb l (31 - (8 * k + t)) * 256 ^ t
theorem hb_lt (l : List UInt8) (k : Nat) : ∀ t, hb l k t < 256 ^ t
  | 0 => by show 0 < 1; omega
  | t + 1 => by
    have h := hb_lt l k t
    have h2 := sb_lt l (31 - (8 * k + t))
    show hb l k t + sb l (31 - (8 * k + t)) * 256 ^ t < 256 ^ (t + 1)
    rw [Nat.pow_succ]
    generalize 256 ^ t = p at *
    generalize sb l (31 - (8 * k + t)) = c at *
    have : c * p ≤ 255 * p := Nat.mul_le_mul_right p (by omega)
    omega
/-- The number of 32 bytes. -/
def nb (l : List UInt8) : Nat := val 4 (fun k => hb l k 8)
theorem hb8_lt (l : List UInt8) (k : Nat) : hb l k 8 < B6 := Nat.lt_of_lt_of_le (hb_lt l k 8) (by decide)
theorem nb_lt (l : List UInt8) : nb l < B6 ^ 4 := val_lt 4 _ fun k _ => hb8_lt l k
theorem lm_nb (l : List UInt8) {k : Nat} (hk : k < 4) : lm (nb l) k = hb l k 8 := lm_val 4 _ (fun k _ => hb8_lt l k) k hk
theorem or_byte {l : List UInt8} {k t j : Nat} (ht : t < 8) (hj : 31 - (8 * k + t) = j) : bits .or .u64 (hb l k t : Nat) (IntKind.u64.wrap (((sb l j : Nat) : Int) * 2 ^ (8 * t))) = (hb l k (t + 1) : Nat) := by
  rw [IntKind.wrap_u64]
  have h1 := hb_lt l k t
  have h2 := sb_lt l j
  have h3 := hb_lt l k (t + 1)
  have h4 : (256 : Nat) ^ (t + 1) ≤ 256 ^ 8 := Nat.pow_le_pow_right (by decide) (by omega)
  have e : hb l k (t + 1) = hb l k t + sb l j * 256 ^ t := by rw [← hj]; rfl
  have e2 : (256 : Nat) ^ t = 2 ^ (8 * t) := by rw [show (256 : Nat) = 2 ^ 8 from rfl, ← Nat.pow_mul]
  rw [e] at h3 ⊢
  rw [e2] at h1 h3 ⊢
  have h5 : sb l j * 2 ^ (8 * t) < 18446744073709551616 := by omega
  have hc : ((sb l j : Nat) : Int) * 2 ^ (8 * t) % 18446744073709551616 = (sb l j * 2 ^ (8 * t) : Nat) := by
    have : ((sb l j : Nat) : Int) * 2 ^ (8 * t) = (sb l j * 2 ^ (8 * t) : Nat) := by simp
    rw [this]
    omega
  rw [hc, bits_or_u64_nat _ _ (by omega) h5, Nat.or_comm, ← Nat.shiftLeft_eq, ← Nat.shiftLeft_add_eq_or_of_lt h1, Nat.add_comm]

set_option maxRecDepth 100000 in
set_option maxHeartbeats 4000000 in
theorem limb_from {l : List UInt8} (hl : l.length = 32) (w : World) : Calls Try.prog 88 #[.string ⟨l.toArray⟩] w fun e w' => e = .returned (.tuple #[.agg #[.int .u64 (lm (nb l) 0 : Nat), .int .u64 (lm (nb l) 1 : Nat), .int .u64 (lm (nb l) 2 : Nat), .int .u64 (lm (nb l) 3 : Nat)], .int .i64 0]) ∧ Chg [] w w' := by
  have hidx := fun (j : Nat) (hj : j < l.length) w => index_sb hj w
  have hsize : (ByteArray.mk l.toArray).size = 32 := by simp [ByteArray.size_mk']; exact hl
  obtain ⟨s, hs⟩ : ∃ s : ByteArray, ⟨l.toArray⟩ = s := ⟨_, rfl⟩
  rw [hs] at hidx hsize ⊢
  have HIx := Lib.hid hidx
  obtain ⟨z, hz⟩ : ∃ z, nb l = z := ⟨_, rfl⟩
  rw [hz]
  have HZz := Lib.hid hz
  clear hidx hs hz
  go_enter Try.func88, Try.ntmps88
  go_upto_region 4 with fail
  obtain ⟨R, hR⟩ : ∃ R, w.heap.size = R := ⟨_, rfl⟩
  obtain ⟨W0, hW0⟩ : ∃ W0, (w.alloc (.cells #[.int .u64 0, .int .u64 0, .int .u64 0, .int .u64 0] 24)).alloc (.cells #[.int .u64 0, .int .u64 0, .int .u64 0, .int .u64 0] 24) = W0 := ⟨_, rfl⟩
  have HR := Lib.hid (show U4 W0 R 24 (fun _ => 0) by rw [← hW0, ← hR]; exact has_alloc (has_alloc_new _ _))
  have HZ := Lib.hid (show U4 W0 (R + 1) 24 (fun _ => 0) by rw [← hW0, ← hR]; exact has_alloc_at (by simp))
  have HC := Lib.hid (show Chg [] w W0 by rw [← hW0]; exact ((Chg.refl _ _).alloc _).alloc _)
  rw [hW0, hR]
  have HwR := Lib.hid (Nat.le_of_eq hR)
  clear hW0 hR
  go_wp2_with fail
  go_loopg [10] 32 (fun gk i wr => ∃ n : Nat, gk + n = 32 ∧ i = .int .i64 n ∧ U4 wr (R + 1) 24 (fun k => hb l k (min 8 (n - 8 * k))) ∧ Chg [R + 1] W0 wr)
  case atStart => exact ⟨0, rfl, rfl, HZ.out.same (fun k hk => by rw [Nat.zero_sub, Nat.min_zero]; rfl), Chg.refl _ _⟩
  case round =>
    obtain ⟨n, hn, rfl, hU, hCr⟩ := hrel
    by_cases hlt : n < 32
    · obtain ⟨k, hk⟩ : ∃ k, n / 8 = k := ⟨_, rfl⟩
      obtain ⟨r, hr⟩ : ∃ r, n % 8 = r := ⟨_, rfl⟩
      obtain ⟨j, hj⟩ : ∃ j, 31 - n = j := ⟨_, rfl⟩
      obtain ⟨t, ht⟩ : ∃ t, 8 * r = t := ⟨_, rfl⟩
      have e1 : (n : Int).tdiv 8 = k := by rw [Int.tdiv_eq_ediv_of_nonneg (by omega)]; omega
      have e2 : (n : Int).tmod 8 = r := by rw [Int.tmod_eq_emod_of_nonneg (by omega)]; omega
      have e3 : 31 - (n : Int) = j := by omega
      have e4 : 8 * (r : Int) = t := by omega
      have hk4 : k < 4 := by omega
      have hj32 : j < 32 := by omega
      have ht64 : t < 64 := by omega
      have hix := fun w => HIx.out j (by omega) w
      have ck := hU.cell hk4
      have hmin : min 8 (n - 8 * k) = r := by omega
      simp only [hmin] at ck
      have zk := hU.fz k
      have hll := hU.lt
      have hor : bits .or .u64 (hb l k r : Nat) (IntKind.u64.wrap (((sb l j : Nat) : Int) * 2 ^ t)) = (hb l k (r + 1) : Nat) := by
        rw [← ht]; exact or_byte (by omega) (by omega)
      obtain ⟨old, ho⟩ : ∃ o, hb l k r = o := ⟨_, rfl⟩
      obtain ⟨new, hnw⟩ : ∃ o, hb l k (r + 1) = o := ⟨_, rfl⟩
      rw [ho, hnw] at hor
      rw [ho] at ck
      obtain ⟨c, hc⟩ : ∃ c, sb l j = c := ⟨_, rfl⟩
      rw [hc] at hor hix
      have hc256 : c < 256 := by rw [← hc]; exact sb_lt l j
      have hU2 : U4 (wr.setCell ⟨R + 1, k, none⟩ (.int .u64 (new : Nat))) (R + 1) 24 (fun k => hb l k (min 8 (n + 1 - 8 * k))) := (hU.set hk4 new).same (fun i hi => by
        by_cases hik : i = k
        · simp only [hik, if_true]
          rw [← hnw, show min 8 (n + 1 - 8 * k) = r + 1 by omega]
        · simp only [hik, if_false]
          rw [show min 8 (n + 1 - 8 * i) = min 8 (n - 8 * i) by omega])
      have HU2 := Lib.hid hU2; have HCr := Lib.hid hCr; have HN := Lib.hid hn
      clear hU hU2 hCr hn hk hr hj ht hmin ho hnw hc
      go_upto_region 7 with fail
      go_region
      try rw [hor]
      go_wp2_with fail
      go_roundg (32 - (n + 1))
      case measure => have := HN.out; omega
      case rel => exact ⟨n + 1, by have := HN.out; omega, by go_num, HU2.out, (HCr.out.setCell (Or.inl (by simp)) _).drew⟩
    · obtain rfl : n = 32 := by omega
      have hU' : U4 wr (R + 1) 24 (lm z) := hU.same fun k hk => by rw [← HZz.out, lm_nb l hk, show min 8 (32 - 8 * k) = 8 by omega]
      have hR9 := HR.out.chg hCr (by simp)
      have hC9 := HC.out.trans_new hCr (by have := HwR.out; simp; omega)
      obtain ⟨k0, k1, k2, k3⟩ := four4 fun _ => hU'.cell
      have q0 := hR9.cell (k := 0) (by omega); have qz0 := hR9.fz 0; have q1 := hR9.cell (k := 1) (by omega); have qz1 := hR9.fz 1; have q2 := hR9.cell (k := 2) (by omega); have qz2 := hR9.fz 2; have q3 := hR9.cell (k := 3) (by omega); have qz3 := hR9.fz 3
      have hll := hR9.lt
      have HF9 := Lib.hid (hR9.put (lm z)); have HCF := Lib.hid (hC9.put4 (b := R) (Or.inr HwR.out) (lm z))
      clear hR9 hC9 hU hU' hCr
      go_wp2_with fail
      have hF := HF9.out; have hCF := HCF.out
      refine (id ?_ : bodyPost _ _ _ _ _ (put4 wr R (lm z)))
      clear HF9 HCF
      generalize put4 wr R (lm z) = W5 at *
      obtain ⟨g0, g1, g2, g3⟩ := four4 fun _ => hF.cell
      exact bodyPost_ret (v := .tuple #[.agg #[.int .u64 (lm z 0 : Nat), .int .u64 (lm z 1 : Nat), .int .u64 (lm z 2 : Nat), .int .u64 (lm z 3 : Nat)], .int .i64 0]) (by simp [results, Try.results88, go_sem, g0, g1, g2, g3]) rfl ⟨rfl, hCF⟩

set_option maxRecDepth 100000 in
set_option maxHeartbeats 4000000 in
theorem limb_from_bad {l : List UInt8} (hl : l.length ≠ 32) (w : World) : Calls Try.prog 88 #[.string ⟨l.toArray⟩] w fun e w' => e = .returned (.tuple #[.agg #[.int .u64 0, .int .u64 0, .int .u64 0, .int .u64 0], .int .i64 4]) ∧ Chg [] w w' := by
  obtain ⟨s, hs⟩ : ∃ s : ByteArray, ⟨l.toArray⟩ = s := ⟨_, rfl⟩
  obtain ⟨n, hn⟩ : ∃ n, s.size = n := ⟨_, rfl⟩
  have hsn : (n : Int) ≠ 32 := by
    have : l.length = n := by rw [← hn, ← hs]; simp [ByteArray.size_mk']
    omega
  have t1 : ((n : Int) != 32) = true := by simp; omega
  rw [hs]
  clear hs hl
  obtain ⟨R, hR⟩ : ∃ R, w.heap.size = R := ⟨_, rfl⟩
  obtain ⟨W0, hW0⟩ : ∃ W0, w.alloc (.cells #[.int .u64 0, .int .u64 0, .int .u64 0, .int .u64 0] 24) = W0 := ⟨_, rfl⟩
  have hR9 : U4 W0 R 24 (fun _ => 0) := by rw [← hW0, ← hR]; exact has_alloc_new _ _
  have hC9 : Chg [] w W0 := by rw [← hW0]; exact (Chg.refl _ _).alloc _
  have HwR := Lib.hid (Nat.le_of_eq hR)
  go_enter Try.func88, Try.ntmps88
  go_upto_region 2 with fail
  try rw [hW0]
  try rw [hR]
  clear hW0 hR
  have q0 := hR9.cell (k := 0) (by omega); have qz0 := hR9.fz 0; have q1 := hR9.cell (k := 1) (by omega); have qz1 := hR9.fz 1; have q2 := hR9.cell (k := 2) (by omega); have qz2 := hR9.fz 2; have q3 := hR9.cell (k := 3) (by omega); have qz3 := hR9.fz 3
  have hll := hR9.lt
  have HF9 := Lib.hid (hR9.put (fun _ => 0)); have HCF := Lib.hid (hC9.put4 (b := R) (Or.inr HwR.out) (fun _ => 0))
  clear hR9 hC9
  go_wp2_with fail
  have hF := HF9.out; have hCF := HCF.out
  refine (id ?_ : bodyPost _ _ _ _ _ (put4 W0 R (fun _ => 0)))
  clear HF9 HCF
  generalize put4 W0 R (fun _ => 0) = W5 at *
  obtain ⟨g0, g1, g2, g3⟩ := four4 fun _ => hF.cell
  exact bodyPost_ret (v := .tuple #[.agg #[.int .u64 0, .int .u64 0, .int .u64 0, .int .u64 0], .int .i64 4]) (by simp [results, Try.results88, go_sem, g0, g1, g2, g3]) rfl ⟨rfl, hCF⟩

set_option maxRecDepth 100000 in
set_option maxHeartbeats 4000000 in
theorem ref_from_bad {l : List UInt8} (hl : l.length ≠ 32) (w : World) : Calls Try.prog 90 #[.string ⟨l.toArray⟩] w fun e w' => e = .returned (.tuple #[.agg #[.int .u64 0, .int .u64 0, .int .u64 0, .int .u64 0], .int .i64 4]) ∧ Chg [] w w' := by
  obtain ⟨s, hs⟩ : ∃ s : ByteArray, ⟨l.toArray⟩ = s := ⟨_, rfl⟩
  obtain ⟨n, hn⟩ : ∃ n, s.size = n := ⟨_, rfl⟩
  have hsn : (n : Int) ≠ 32 := by
    have : l.length = n := by rw [← hn, ← hs]; simp [ByteArray.size_mk']
    omega
  have t1 : ((n : Int) != 32) = true := by simp; omega
  rw [hs]
  clear hs hl
  obtain ⟨R, hR⟩ : ∃ R, w.heap.size = R := ⟨_, rfl⟩
  obtain ⟨W0, hW0⟩ : ∃ W0, w.alloc (.cells #[.int .u64 0, .int .u64 0, .int .u64 0, .int .u64 0] 24) = W0 := ⟨_, rfl⟩
  have hR9 : U4 W0 R 24 (fun _ => 0) := by rw [← hW0, ← hR]; exact has_alloc_new _ _
  have hC9 : Chg [] w W0 := by rw [← hW0]; exact (Chg.refl _ _).alloc _
  have HwR := Lib.hid (Nat.le_of_eq hR)
  go_enter Try.func90, Try.ntmps90
  go_upto_region 2 with fail
  try rw [hW0]
  try rw [hR]
  clear hW0 hR
  have q0 := hR9.cell (k := 0) (by omega); have qz0 := hR9.fz 0; have q1 := hR9.cell (k := 1) (by omega); have qz1 := hR9.fz 1; have q2 := hR9.cell (k := 2) (by omega); have qz2 := hR9.fz 2; have q3 := hR9.cell (k := 3) (by omega); have qz3 := hR9.fz 3
  have hll := hR9.lt
  have HF9 := Lib.hid (hR9.put (fun _ => 0)); have HCF := Lib.hid (hC9.put4 (b := R) (Or.inr HwR.out) (fun _ => 0))
  clear hR9 hC9
  go_wp2_with fail
  have hF := HF9.out; have hCF := HCF.out
  refine (id ?_ : bodyPost _ _ _ _ _ (put4 W0 R (fun _ => 0)))
  clear HF9 HCF
  generalize put4 W0 R (fun _ => 0) = W5 at *
  obtain ⟨g0, g1, g2, g3⟩ := four4 fun _ => hF.cell
  exact bodyPost_ret (v := .tuple #[.agg #[.int .u64 0, .int .u64 0, .int .u64 0, .int .u64 0], .int .i64 4]) (by simp [results, Try.results90, go_sem, g0, g1, g2, g3]) rfl ⟨rfl, hCF⟩

/-- The highest t bytes of limb k. -/
def gb (l : List UInt8) (k : Nat) : Nat → Nat
  | 0 => 0
  | t + 1 => gb l k t * 256 + sb l (8 * (3 - k) + t)
theorem gb_lt (l : List UInt8) (k : Nat) : ∀ t, gb l k t < 256 ^ t
  | 0 => by show 0 < 1; omega
  | t + 1 => by
    have h := gb_lt l k t
    have h2 := sb_lt l (8 * (3 - k) + t)
    show gb l k t * 256 + sb l (8 * (3 - k) + t) < 256 ^ (t + 1)
    rw [Nat.pow_succ]
    omega
theorem gb_hb (l : List UInt8) {k : Nat} (hk : k < 4) : gb l k 8 = hb l k 8 := by
  have : k = 0 ∨ k = 1 ∨ k = 2 ∨ k = 3 := by omega
  rcases this with rfl | rfl | rfl | rfl <;> simp only [gb, hb, Nat.reduceSub, Nat.reduceMul, Nat.reduceAdd, Nat.reducePow] <;> omega

set_option maxRecDepth 100000 in
set_option maxHeartbeats 4000000 in
theorem ref_from {l : List UInt8} (hl : l.length = 32) (w : World) : Calls Try.prog 90 #[.string ⟨l.toArray⟩] w fun e w' => e = .returned (.tuple #[.agg #[.int .u64 (lm (nb l) 0 : Nat), .int .u64 (lm (nb l) 1 : Nat), .int .u64 (lm (nb l) 2 : Nat), .int .u64 (lm (nb l) 3 : Nat)], .int .i64 0]) ∧ Chg [] w w' := by
  have hidx := fun (j : Nat) (hj : j < l.length) w => index_sb hj w
  have hsize : (ByteArray.mk l.toArray).size = 32 := by simp [ByteArray.size_mk']; exact hl
  obtain ⟨s, hs⟩ : ∃ s : ByteArray, ⟨l.toArray⟩ = s := ⟨_, rfl⟩
  rw [hs] at hidx hsize ⊢
  have HIx := Lib.hid hidx
  obtain ⟨z, hz⟩ : ∃ z, nb l = z := ⟨_, rfl⟩
  rw [hz]
  have HZz := Lib.hid hz
  clear hidx hs hz
  go_enter Try.func90, Try.ntmps90
  go_upto_region 4 with fail
  obtain ⟨R, hR⟩ : ∃ R, w.heap.size = R := ⟨_, rfl⟩
  obtain ⟨W0, hW0⟩ : ∃ W0, (w.alloc (.cells #[.int .u64 0, .int .u64 0, .int .u64 0, .int .u64 0] 24)).alloc (.cells #[.int .u64 0, .int .u64 0, .int .u64 0, .int .u64 0] 24) = W0 := ⟨_, rfl⟩
  have HR := Lib.hid (show U4 W0 R 24 (fun _ => 0) by rw [← hW0, ← hR]; exact has_alloc (has_alloc_new _ _))
  have HZ := Lib.hid (show U4 W0 (R + 1) 24 (fun _ => 0) by rw [← hW0, ← hR]; exact has_alloc_at (by simp))
  have HC := Lib.hid (show Chg [] w W0 by rw [← hW0]; exact ((Chg.refl _ _).alloc _).alloc _)
  rw [hW0, hR]
  have HwR := Lib.hid (Nat.le_of_eq hR)
  clear hW0 hR
  go_wp2_with fail
  go_loopg [5] 32 (fun gk i wr => ∃ n : Nat, gk + n = 32 ∧ i = .int .i64 n ∧ U4 wr (R + 1) 24 (fun k => gb l k (min 8 (n - 8 * (3 - k)))) ∧ Chg [R + 1] W0 wr)
  case atStart => exact ⟨0, rfl, rfl, HZ.out.same (fun k hk => by rw [Nat.zero_sub, Nat.min_zero]; rfl), Chg.refl _ _⟩
  case round =>
    obtain ⟨n, hn, rfl, hU, hCr⟩ := hrel
    by_cases hlt : n < 32
    · obtain ⟨d, hd⟩ : ∃ d, n / 8 = d := ⟨_, rfl⟩
      obtain ⟨k, hk⟩ : ∃ k, 3 - d = k := ⟨_, rfl⟩
      obtain ⟨r, hr⟩ : ∃ r, n % 8 = r := ⟨_, rfl⟩
      have e1 : (n : Int).tdiv 8 = d := by rw [Int.tdiv_eq_ediv_of_nonneg (by omega)]; omega
      have e3 : 3 - (d : Int) = k := by omega
      have hk4 : k < 4 := by omega
      have hix := fun w => HIx.out n (by omega) w
      have ck := hU.cell hk4
      have hmin : min 8 (n - 8 * (3 - k)) = r := by omega
      simp only [hmin] at ck
      have zk := hU.fz k
      have hll := hU.lt
      have hnext : gb l k (r + 1) = gb l k r * 256 + sb l n := by
        show gb l k r * 256 + sb l (8 * (3 - k) + r) = _
        rw [show 8 * (3 - k) + r = n by omega]
      have hnew64 : gb l k (r + 1) < 18446744073709551616 := Nat.lt_of_lt_of_le (gb_lt l k (r + 1)) (Nat.pow_le_pow_right (n := 256) (by decide) (show r + 1 ≤ 8 by omega))
      obtain ⟨old, ho⟩ : ∃ o, gb l k r = o := ⟨_, rfl⟩
      obtain ⟨new, hnw⟩ : ∃ o, gb l k (r + 1) = o := ⟨_, rfl⟩
      rw [ho, hnw] at hnext
      rw [hnw] at hnew64
      rw [ho] at ck
      obtain ⟨c, hc⟩ : ∃ c, sb l n = c := ⟨_, rfl⟩
      rw [hc] at hnext hix
      have hc256 : c < 256 := by rw [← hc]; exact sb_lt l n
      have hU2 : U4 (wr.setCell ⟨R + 1, k, none⟩ (.int .u64 (new : Nat))) (R + 1) 24 (fun k => gb l k (min 8 (n + 1 - 8 * (3 - k)))) := (hU.set hk4 new).same (fun i hi => by
        by_cases hik : i = k
        · simp only [hik, if_true]
          rw [← hnw, show min 8 (n + 1 - 8 * (3 - k)) = r + 1 by omega]
        · simp only [hik, if_false]
          rw [show min 8 (n + 1 - 8 * (3 - i)) = min 8 (n - 8 * (3 - i)) by omega])
      have HE5 := Lib.hid (show ((old : Nat) : Int) * 256 + (c : Nat) = (new : Nat) by omega)
      have hk4' : (k : Int) < 4 := by omega
      have hold : old < 72057594037927936 := by omega
      have HU2 := Lib.hid hU2; have HCr := Lib.hid hCr; have HN := Lib.hid hn
      clear hU hU2 hCr hn hk hr hd hmin ho hnw hc hnext hnew64
      go_upto_region 8 with fail
      go_region
      try rw [HE5.out]
      go_wp2_with fail
      go_roundg (32 - (n + 1))
      case measure => have := HN.out; omega
      case rel => exact ⟨n + 1, by have := HN.out; omega, by go_num, HU2.out, (HCr.out.setCell (Or.inl (by simp)) _).drew⟩
    · obtain rfl : n = 32 := by omega
      have hU' : U4 wr (R + 1) 24 (lm z) := hU.same fun k hk => by rw [← HZz.out, lm_nb l hk, show min 8 (32 - 8 * (3 - k)) = 8 by omega, gb_hb l hk]
      have hR9 := HR.out.chg hCr (by simp)
      have hC9 := HC.out.trans_new hCr (by have := HwR.out; simp; omega)
      obtain ⟨k0, k1, k2, k3⟩ := four4 fun _ => hU'.cell
      have q0 := hR9.cell (k := 0) (by omega); have qz0 := hR9.fz 0; have q1 := hR9.cell (k := 1) (by omega); have qz1 := hR9.fz 1; have q2 := hR9.cell (k := 2) (by omega); have qz2 := hR9.fz 2; have q3 := hR9.cell (k := 3) (by omega); have qz3 := hR9.fz 3
      have hll := hR9.lt
      have HF9 := Lib.hid (hR9.put (lm z)); have HCF := Lib.hid (hC9.put4 (b := R) (Or.inr HwR.out) (lm z))
      clear hR9 hC9 hU hU' hCr
      go_wp2_with fail
      have hF := HF9.out; have hCF := HCF.out
      refine (id ?_ : bodyPost _ _ _ _ _ (put4 wr R (lm z)))
      clear HF9 HCF
      generalize put4 wr R (lm z) = W5 at *
      obtain ⟨g0, g1, g2, g3⟩ := four4 fun _ => hF.cell
      exact bodyPost_ret (v := .tuple #[.agg #[.int .u64 (lm z 0 : Nat), .int .u64 (lm z 1 : Nat), .int .u64 (lm z 2 : Nat), .int .u64 (lm z 3 : Nat)], .int .i64 0]) (by simp [results, Try.results90, go_sem, g0, g1, g2, g3]) rfl ⟨rfl, hCF⟩

end Go.Proofs.Ytplldbmjdnikeaa
