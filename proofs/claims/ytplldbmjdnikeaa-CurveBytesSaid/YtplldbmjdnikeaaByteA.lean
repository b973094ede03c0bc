/- Bytes of a number: plain, and the walk of limb.Bytes. Printed by bytea.py. -/
import Derived.Test.YtplldbmjdnikeaaLb1
import Derived.Laws.IdiomStrings
import Derived.Laws.ShiftsVar
namespace Go.Proofs.Ytplldbmjdnikeaa
set_option linter.unusedVariables false
set_option linter.unusedSimpArgs false
open Go.RowKit

/-- The byte number j, the lowest first. -/
def byN (x j : Nat) : Nat := x / 256 ^ j % 256
theorem byN_lt (x j : Nat) : byN x j < 256 := Nat.mod_lt _ (by decide)
/-- The 32 bytes, the highest first. -/
def beL (x : Nat) : List UInt8 := (List.range 32).map fun i => UInt8.ofNat (byN x (31 - i))
theorem beL_len (x : Nat) : (beL x).length = 32 := by simp [beL]
theorem beL_at (x : Nat) {j : Nat} (h : j < (beL x).length) : ((beL x)[j].toNat : Int) = (byN x (31 - j) : Nat) := by
  have := byN_lt x (31 - j)
  simp [beL]
  omega
theorem by_nat (a i k r : Nat) (hk : i / 8 = k) (hr : i % 8 = r) : lm a k / 2 ^ (8 * r) % 256 = byN a i := by
  have hr8 : r < 8 := by omega
  have e64 : B6 = 2 ^ (8 * r) * 2 ^ (64 - 8 * r) := by rw [← Nat.pow_add, show 8 * r + (64 - 8 * r) = 64 by omega]
  have ek : B6 ^ k = 2 ^ (64 * k) := by rw [show B6 = 2 ^ 64 from rfl, ← Nat.pow_mul]
  have hd : 256 ∣ 2 ^ (64 - 8 * r) := ⟨2 ^ (56 - 8 * r), by rw [show (256 : Nat) = 2 ^ 8 from rfl, ← Nat.pow_add, show 8 + (56 - 8 * r) = 64 - 8 * r by omega]⟩
  unfold lm byN
  rw [e64, Nat.mod_mul_right_div_self, Nat.mod_mod_of_dvd _ hd, ← e64, ek, Nat.div_div_eq_div_mul, ← Nat.pow_add, show (256 : Nat) = 2 ^ 8 from rfl, ← Nat.pow_mul, show 64 * k + 8 * r = 8 * i by omega]

/-- Of the 32 cells of block b the last so many are x's. -/
def Byt (w : World) (b x n : Nat) : Prop := ∃ cs : Array Value, w.heap[b]? = some (.cells cs 120 (0, 0)) ∧ cs.size = 32 ∧ ∀ j, j < n → cs[31 - j]? = some (.int .u8 (byN x j : Nat))

set_option maxRecDepth 100000 in
set_option maxHeartbeats 4000000 in
theorem limb_bytes (x : Nat) (w : World) : Calls Try.prog 59 #[.agg #[.int .u64 (lm x 0 : Nat), .int .u64 (lm x 1 : Nat), .int .u64 (lm x 2 : Nat), .int .u64 (lm x 3 : Nat)]] w fun e w' => e = .returned (.string ⟨(beL x).toArray⟩) ∧ Chg [] w w' := by
  obtain ⟨W0, hW0⟩ : ∃ W0, w.alloc (.cells #[.int .u64 (lm x 0 : Nat), .int .u64 (lm x 1 : Nat), .int .u64 (lm x 2 : Nat), .int .u64 (lm x 3 : Nat)] 24) = W0 := ⟨_, rfl⟩
  obtain ⟨B, hB⟩ : ∃ B, w.heap.size = B := ⟨_, rfl⟩
  have HU := Lib.hid (show U4 W0 B 24 (lm x) by rw [← hW0, ← hB]; exact has_alloc_new _ _)
  have HC := Lib.hid (show Chg [] w W0 by rw [← hW0]; exact (Chg.refl _ _).alloc _)
  go_enter Try.func59, Try.ntmps59
  go_upto_region 1 with fail
  try rw [hW0]
  try rw [hB]
  go_upto_region 2 with fail
  clear hW0 hB
  obtain ⟨K, hK⟩ : ∃ K, W0.heap.size = K := ⟨_, rfl⟩
  try rw [hK]
  obtain ⟨W1, hW1⟩ : ∃ W1, W0.alloc (.cells #[.int .u8 0, .int .u8 0, .int .u8 0, .int .u8 0, .int .u8 0, .int .u8 0, .int .u8 0, .int .u8 0, .int .u8 0, .int .u8 0, .int .u8 0, .int .u8 0, .int .u8 0, .int .u8 0, .int .u8 0, .int .u8 0, .int .u8 0, .int .u8 0, .int .u8 0, .int .u8 0, .int .u8 0, .int .u8 0, .int .u8 0, .int .u8 0, .int .u8 0, .int .u8 0, .int .u8 0, .int .u8 0, .int .u8 0, .int .u8 0, .int .u8 0, .int .u8 0] 120) = W1 := ⟨_, rfl⟩
  try rw [hW1]
  have hKW : W0.heap.size ≤ K := Nat.le_of_eq hK
  have hZ : W1.heap[K]? = some (.cells #[.int .u8 0, .int .u8 0, .int .u8 0, .int .u8 0, .int .u8 0, .int .u8 0, .int .u8 0, .int .u8 0, .int .u8 0, .int .u8 0, .int .u8 0, .int .u8 0, .int .u8 0, .int .u8 0, .int .u8 0, .int .u8 0, .int .u8 0, .int .u8 0, .int .u8 0, .int .u8 0, .int .u8 0, .int .u8 0, .int .u8 0, .int .u8 0, .int .u8 0, .int .u8 0, .int .u8 0, .int .u8 0, .int .u8 0, .int .u8 0, .int .u8 0, .int .u8 0] 120 (0, 0)) := by rw [← hW1, ← hK]; exact has_alloc_new _ _
  have HZ := Lib.hid hZ
  have HA := Lib.hid (show Chg [] W0 W1 by rw [← hW1]; exact (Chg.refl _ _).alloc _)
  have HK := Lib.hid hKW
  clear hW1 hK hZ hKW
  go_wp2_with fail
  go_loopg [5] 32 (fun gk i wr => ∃ n : Nat, gk + n = 32 ∧ i = .int .i64 n ∧ Byt wr K x n ∧ Chg [] W0 wr)
  case atStart => exact ⟨0, rfl, rfl, ⟨_, HZ.out, rfl, fun j hj => absurd hj (by omega)⟩, HA.out⟩
  case round =>
    obtain ⟨n, hn, rfl, ⟨cs, hcs, hsz, hby⟩, hCr⟩ := hrel
    by_cases hlt : n < 32
    · obtain ⟨k, hk⟩ : ∃ k, n / 8 = k := ⟨_, rfl⟩
      obtain ⟨r, hr⟩ : ∃ r, n % 8 = r := ⟨_, rfl⟩
      obtain ⟨j, hj⟩ : ∃ j, 31 - n = j := ⟨_, rfl⟩
      obtain ⟨s, hs⟩ : ∃ s, 8 * r = s := ⟨_, rfl⟩
      have e1 : (n : Int).tdiv 8 = k := by rw [Int.tdiv_eq_ediv_of_nonneg (by omega)]; omega
      have e2 : (n : Int).tmod 8 = r := by rw [Int.tmod_eq_emod_of_nonneg (by omega)]; omega
      have e3 : 31 - (n : Int) = j := by omega
      have e4 : 8 * (r : Int) = s := by omega
      have hk4 : k < 4 := by omega
      have hj32 : j < 32 := by omega
      have hs64 : s < 64 := by omega
      have ck := (HU.out.chg hCr nmN).cell hk4
      obtain ⟨u0, dj⟩ : ∃ u, wr.cell? ⟨K, j, none⟩ = some u := ⟨cs[j]'(by omega), by rw [cell_of_has hcs]; exact Array.getElem?_eq_getElem (by omega)⟩
      have zj := frozen_of_has hcs j
      have hll := lt_of_has hcs
      have HCs := Lib.hid hcs; have HSz := Lib.hid hsz; have HBy := Lib.hid hby; have HCr := Lib.hid hCr; have HN := Lib.hid hn
      have HV := Lib.hid (by_nat x n k r hk hr)
      have HJ := Lib.hid hj; have HS := Lib.hid hs
      clear hcs hsz hby hCr hn hk hr hj hs
      go_wp2_with fail
      have ev : ((lm x k : Nat) : Int) / 2 ^ s % 256 = (byN x n : Nat) := by
        have h := HV.out
        rw [HS.out] at h
        rw [← h]; rfl
      rw [ev]
      go_roundg (32 - (n + 1))
      case measure => have := HN.out; omega
      case rel =>
        refine ⟨n + 1, by have := HN.out; omega, by go_num, ⟨_, has_set HCs.out j _, by rw [Array.size_setIfInBounds]; exact HSz.out, fun i hi => ?_⟩, HCr.out.setCell (Or.inr HK.out) _⟩
        have hJ := HJ.out
        have hSz := HSz.out
        by_cases hin : i = n
        · rw [hin, hJ, Array.getElem?_setIfInBounds_self_of_lt (by omega)]
        · rw [Array.getElem?_setIfInBounds_ne (by omega)]
          exact HBy.out i (by omega)
    · obtain rfl : n = 32 := by omega
      have hconv : (convert 97 9 (.slice (some ⟨K, 0, none⟩) 32 32)).run Try.prog wr = .ok (.string ⟨(beL x).toArray⟩) wr := by
        have h := run_convert_bytes_back (P := Try.prog) wr 97 9 5 ⟨K, 0, none⟩ 32 (beL x) Try.underlying97 Try.underlying5 Try.underlying9 (fun j hj => by
          rw [addr_add0, cell_of_has hcs, beL_at x hj]
          rw [beL_len] at hj
          have := hby (31 - j) (by omega)
          rwa [show 31 - (31 - j) = j by omega] at this)
        rw [beL_len] at h
        exact h
      have hll := lt_of_has hcs
      have HF := Lib.hid (HC.out.trans hCr)
      clear hcs hsz hby hCr
      go_wp2_with fail
      go_ret
      exact ⟨rfl, HF.out⟩

theorem own_shape {w : World} {base : Nat} {e : TypeId} {size : Nat} {v : Value} {n : Nat} {xs : List Value} (h : w.ownsRow base e size v n xs) : ∃ a cap, v = .slice a n cap := by
  rcases h.2 with ⟨rfl, h0⟩ | ⟨g, cap, cur, rfl, _⟩
  · exact ⟨none, 0, by rw [h0]⟩
  · exact ⟨_, _, rfl⟩
theorem elem_byte : ElemOK Try.prog 97 5 (.int .u8 0) 1 1 := ⟨Try.underlying97, by kernel_rfl, rfl, by decide⟩
/-- The cells of the first so many bytes. -/
def bcs (x n : Nat) : List Value := (List.range n).map fun p => Value.int .u8 (byN x (31 - p) : Nat)
theorem bcs_succ (x n : Nat) : bcs x (n + 1) = bcs x n ++ [Value.int .u8 (byN x (31 - n) : Nat)] := by simp [bcs, List.range_succ]
theorem bcs_at (x : Nat) {n p : Nat} (h : p < n) : (bcs x n)[p]? = some (Value.int .u8 (byN x (31 - p) : Nat)) := by simp [bcs, h]
theorem top_byte (L t : Nat) (ht : t ≤ 7) : L * 256 ^ t % 18446744073709551616 / 2 ^ 56 = L / 256 ^ (7 - t) % 256 := by
  have e1 : 18446744073709551616 = 256 ^ (8 - t) * 256 ^ t := by rw [← Nat.pow_add, show 8 - t + t = 8 by omega]
  have e2 : 2 ^ 56 = 256 ^ (7 - t) * 256 ^ t := by rw [← Nat.pow_add, show 7 - t + t = 7 by omega]
  have e3 : 256 ^ (8 - t) = 256 ^ (7 - t) * 256 := by rw [show 8 - t = 7 - t + 1 by omega, Nat.pow_succ]
  rw [e1, e2, Nat.mul_mod_mul_right, Nat.mul_div_mul_right _ _ (Nat.pow_pos (by decide)), e3, Nat.mod_mul_right_div_self]
theorem next_limb (L t : Nat) : L * 256 ^ t % 18446744073709551616 * 256 % 18446744073709551616 = L * 256 ^ (t + 1) % 18446744073709551616 := by
  rw [Nat.mod_mul_mod, Nat.pow_succ, Nat.mul_assoc]

set_option maxRecDepth 100000 in
set_option maxHeartbeats 4000000 in
theorem ref_bytes (x : Nat) (w : World) : Calls Try.prog 60 #[.agg #[.int .u64 (lm x 0 : Nat), .int .u64 (lm x 1 : Nat), .int .u64 (lm x 2 : Nat), .int .u64 (lm x 3 : Nat)]] w fun e w' => e = .returned (.string ⟨(beL x).toArray⟩) ∧ Chg [] w w' := by
  obtain ⟨W0, hW0⟩ : ∃ W0, w.alloc (.cells #[.int .u64 (lm x 0 : Nat), .int .u64 (lm x 1 : Nat), .int .u64 (lm x 2 : Nat), .int .u64 (lm x 3 : Nat)] 24) = W0 := ⟨_, rfl⟩
  obtain ⟨B, hB⟩ : ∃ B, w.heap.size = B := ⟨_, rfl⟩
  have HU := Lib.hid (show U4 W0 B 24 (lm x) by rw [← hW0, ← hB]; exact has_alloc_new _ _)
  have HC := Lib.hid (show Chg [] w W0 by rw [← hW0]; exact (Chg.refl _ _).alloc _)
  go_enter Try.func60, Try.ntmps60
  go_upto_region 2 with fail
  try rw [hW0]
  try rw [hB]
  clear hW0 hB
  go_wp2_with fail
  go_loopg [3, 4] 4 (fun gk v i wr => ∃ (m cap : Nat) (A : Option Addr), gk + m = 4 ∧ i = .int .i64 (3 - (m : Int)) ∧ v = .slice A (8 * m) cap ∧ wr.ownsRow W0.heap.size 5 1 (.slice A (8 * m) cap) (8 * m) (bcs x (8 * m)) ∧ Chg [] W0 wr)
  case atStart => exact ⟨0, 0, none, rfl, rfl, rfl, World.ownsRow_nil _ _ _ _, Chg.refl _ _⟩
  case round =>
    obtain ⟨m, cap, A, hm, rfl, rfl, hown, hCr⟩ := hrel
    by_cases hlt : m < 4
    · obtain ⟨k, hk⟩ : ∃ k : Nat, 3 - m = k := ⟨_, rfl⟩
      have hk2 : 3 - (m : Int) = (k : Nat) := by omega
      rw [hk2]
      have hk4 : k < 4 := by omega
      have ck := (HU.out.chg hCr nmN).cell hk4
      have HM := Lib.hid hm; have HK := Lib.hid hk; have HOwn := Lib.hid hown; have HCr := Lib.hid hCr
      clear hm hk hk2 hown hCr
      obtain ⟨L, hL⟩ : ∃ L, lm x k = L := ⟨_, rfl⟩
      rw [hL] at ck
      have HL := Lib.hid hL
      have hL64 : L < 18446744073709551616 := by rw [← hL]; exact lm_lt x k
      clear hL
      go_upto_region 6 with fail
      clear ck
      go_wp2_with fail
      go_loopg [3, 5, 6] 8 (fun gk v y i wr => ∃ (t cap n : Nat) (A : Option Addr), gk + t = 8 ∧ i = .int .i64 (t : Nat) ∧ n = 8 * m + t ∧ y = .int .u64 (L * 256 ^ t % 18446744073709551616 : Nat) ∧ v = .slice A n cap ∧ wr.ownsRow W0.heap.size 5 1 (.slice A n cap) n (bcs x n) ∧ Chg [] W0 wr)
      case atStart => exact ⟨0, _, _, _, rfl, rfl, rfl, by rw [Nat.pow_zero, Nat.mul_one, Nat.mod_eq_of_lt hL64], rfl, HOwn.out, HCr.out⟩
      case round =>
        obtain ⟨t, cap, n, A, ht, rfl, hn, rfl, rfl, hown, hCr⟩ := hrel
        clear HOwn HCr
        by_cases hlt2 : t < 8
        · obtain ⟨y, hy⟩ : ∃ y, L * 256 ^ t % 18446744073709551616 = y := ⟨_, rfl⟩
          have hy64 : y < 18446744073709551616 := by rw [← hy]; exact Nat.mod_lt _ (by decide)
          have hb := top_byte L t (by omega)
          have hnx := next_limb L t
          rw [hy] at hb hnx
          have hbb : y / 2 ^ 56 = byN x (31 - n) := by
            rw [hb, ← HL.out, ← by_nat x (31 - n) k (7 - t) (by have := HK.out; omega) (by have := HK.out; omega)]
            rw [show (256 : Nat) ^ (7 - t) = 2 ^ (8 * (7 - t)) by rw [show (256 : Nat) = 2 ^ 8 from rfl, ← Nat.pow_mul]]
          rw [hy]
          have HN := Lib.hid hn; have HT := Lib.hid ht; have HY := Lib.hid hy; have HB := Lib.hid hbb; have HX := Lib.hid hnx; have HCr := Lib.hid hCr
          have hsz := hCr.size
          have hn32 : n < 32 := by omega
          clear hy hb hnx hbb hn ht hCr
          go_wp2_with (at_builtin; go_loud (refine wpList_push rfl (.tmp 18) (.tmp 22) 97 rfl elem_byte W0.heap.size rfl (hown.alloc _) wr.heap.size #[.int .u8 ((y : Nat) / 72057594037927936)] rfl rfl (has_alloc_at (by first | rfl | (simp; done))) (by simp [Value.oneCell']) (by omega) (by omega) (by simp; omega) ?_; intro v3 w6 hown6 hgrow6 hat6; obtain ⟨a3, cap3, rfl⟩ := own_shape hown6))
          have ey : ((y : Nat) : Int) / 72057594037927936 = (byN x (31 - n) : Nat) := by rw [← HB.out]; rfl
          rw [ey] at hown6
          have hown7 : w6.ownsRow W0.heap.size 5 1 (.slice a3 (n + 1) cap3) (n + 1) (bcs x (n + 1)) := by rw [bcs_succ]; exact hown6
          go_roundg (8 - (t + 1))
          case measure => have := HT.out; omega
          case rel =>
            refine ⟨t + 1, cap3, n + 1, a3, by have := HT.out; omega, by go_num, by have := HN.out; omega, ?_, rfl, hown7, ?_⟩
            · rw [← HX.out]
              first | rfl | go_num
            · refine (HCr.out.alloc _).grown hgrow6 ?_
              intro b3 hb3
              exact Or.inr (hown.lt b3 hb3).1
        · obtain rfl : t = 8 := by omega
          have HN := Lib.hid hn; have HOw := Lib.hid hown; have HCr := Lib.hid hCr
          clear hn hown hCr ht
          go_wp2_with fail
          go_roundg (4 - (m + 1))
          case measure => have := HM.out; omega
          case rel =>
            have e1 : (k : Int) - 1 = 3 - ((m + 1 : Nat) : Int) := by have := HK.out; have := HM.out; omega
            have e2 : 8 * (m + 1) = n := by have := HN.out; omega
            exact ⟨m + 1, cap, A, by have := HM.out; omega, by first | exact congrArg _ e1 | (rw [e1]), by rw [e2], by rw [e2]; exact HOw.out, HCr.out⟩
    · obtain rfl : m = 4 := by omega
      have hconv : (convert 97 9 (.slice A 32 cap)).run Try.prog wr = .ok (.string ⟨(beL x).toArray⟩) wr := by
        rcases hown.2 with ⟨hv, h1⟩ | ⟨g, cap2, cur, hv, hb, hg, _⟩
        · omega
        · injection hv with hv1 hv2 hv3
          subst hv1
          have h := run_convert_bytes_back (P := Try.prog) wr 97 9 5 ⟨g, 0, none⟩ cap (beL x) Try.underlying97 Try.underlying5 Try.underlying9 (fun j hj => by
            have hj' := hj
            rw [beL_len] at hj'
            rw [beL_at x hj]
            exact hown.cells (g := g) rfl j _ (bcs_at x hj'))
          rw [beL_len] at h
          exact h
      have HF := Lib.hid (HC.out.trans hCr)
      clear hown hCr
      go_wp2_with fail
      go_ret
      exact ⟨rfl, HF.out⟩

end Go.Proofs.Ytplldbmjdnikeaa
