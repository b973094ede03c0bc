/- The walk of wardmoteref03.Decode. Printed by decr.py. -/
import Derived.Test.YtplldbmjdnikeaaDecD
namespace Go.Proofs.Ytplldbmjdnikeaa
set_option linter.unusedVariables false
set_option linter.unusedSimpArgs false
open Go.RowKit

theorem zero4 : (#[.int .u64 0, .int .u64 0, .int .u64 0, .int .u64 0] : Array Value) = #[.int .u64 (lm 0 0 : Nat), .int .u64 (lm 0 1 : Nat), .int .u64 (lm 0 2 : Nat), .int .u64 (lm 0 3 : Nat)] := by simp only [lm_zero']
theorem sqrt_all {a : Nat} (ha : a < PP) (hr : (a ^ rootP % PP) * (a ^ rootP % PP) % PP = a) (w : World) :
    Calls Try.prog 64 #[.agg (dcCells PP cP), .agg #[.int .u64 (lm a 0 : Nat), .int .u64 (lm a 1 : Nat), .int .u64 (lm a 2 : Nat), .int .u64 (lm a 3 : Nat)], .bool true] w fun e w' => e = .returned (.tuple #[.agg #[.int .u64 (lm (evR PP (a ^ rootP % PP)) 0 : Nat), .int .u64 (lm (evR PP (a ^ rootP % PP)) 1 : Nat), .int .u64 (lm (evR PP (a ^ rootP % PP)) 2 : Nat), .int .u64 (lm (evR PP (a ^ rootP % PP)) 3 : Nat)], .int .i64 0]) ∧ Chg [] w w' := by
  by_cases hp : a ^ rootP % PP % 2 = 1
  · exact ref_sqrt_odd ha hr hp w
  · exact ref_sqrt_even ha hr hp w

set_option maxRecDepth 100000 in
set_option maxHeartbeats 8000000 in
theorem ref_dec_len {l : List UInt8} (hl : l.length ≠ 33) (w : World) :
    Calls Try.prog 30 #[.string ⟨l.toArray⟩] w fun e w' => e = .returned (.tuple #[.agg #[.int .u64 0, .int .u64 0, .int .u64 0, .int .u64 0, .int .u64 0, .int .u64 0, .int .u64 0, .int .u64 0, .bool false], .int .i64 4]) ∧ Chg [] w w' := by
  obtain ⟨s, hs⟩ : ∃ s : ByteArray, ⟨l.toArray⟩ = s := ⟨_, rfl⟩
  have hsz := size_str hs
  obtain ⟨n, hn⟩ : ∃ n, l.length = n := ⟨_, rfl⟩
  rw [hn] at hsz hl
  have t1 : ((n : Int) != 33) = true := by simp; omega
  rw [hs]
  clear hs hn hl
  obtain ⟨W0, hW0⟩ : ∃ W0, w.alloc (.cells #[.int .u64 0, .int .u64 0, .int .u64 0, .int .u64 0, .int .u64 0, .int .u64 0, .int .u64 0, .int .u64 0, .bool false] 26) = W0 := ⟨_, rfl⟩
  obtain ⟨R, hR⟩ : ∃ R, w.heap.size = R := ⟨_, rfl⟩
  have HR := Lib.hid (show U9 W0 R 0 0 false from U9.zero (by rw [← hW0, ← hR]; exact has_alloc_new _ _))
  have HC := Lib.hid (show Chg [] w W0 by rw [← hW0]; exact (Chg.refl _ _).alloc _)
  have HwR := Lib.hid (Nat.le_of_eq hR)
  go_enter Try.func30, Try.ntmps30
  go_upto_region 1 with fail
  try rw [hW0]
  try rw [hR]
  clear hW0 hR
  go_upto_region 2 with fail
  obtain ⟨n0, n1, n2, n3, n4, n5, n6, n7, n8⟩ := HR.out.all
  simp only [lm_zero'] at n0 n1 n2 n3 n4 n5 n6 n7
  obtain ⟨nz0, nz1, nz2, nz3, nz4, nz5, nz6, nz7, nz8⟩ := HR.out.fzs'
  have hll := HR.out.lt
  have HF := Lib.hid (HR.out.put 0 0 false); have HCF := Lib.hid (HC.out.put9 (b := R) (Or.inr HwR.out) 0 0 false)
  go_wp2_with fail
  have hF := HF.out; have hCF := HCF.out
  refine (id ?_ : bodyPost _ _ _ _ _ (put9 W0 R 0 0 false))
  clear HF HCF
  generalize put9 W0 R 0 0 false = W5 at *
  obtain ⟨g0, g1, g2, g3, g4, g5, g6, g7, g8⟩ := hF.all
  simp only [lm_zero'] at g0 g1 g2 g3 g4 g5 g6 g7
  exact bodyPost_ret (v := .tuple #[.agg #[.int .u64 0, .int .u64 0, .int .u64 0, .int .u64 0, .int .u64 0, .int .u64 0, .int .u64 0, .int .u64 0, .bool false], .int .i64 4]) (by simp [results, Try.results30, go_sem, g0, g1, g2, g3, g4, g5, g6, g7, g8]) rfl ⟨rfl, hCF⟩

set_option maxRecDepth 100000 in
set_option maxHeartbeats 8000000 in
theorem ref_dec_tag {l : List UInt8} (hl : l.length = 33) (h0 : sb l 0 ≠ 0) (h2 : sb l 0 ≠ 2) (h3 : sb l 0 ≠ 3) (w : World) :
    Calls Try.prog 30 #[.string ⟨l.toArray⟩] w fun e w' => e = .returned (.tuple #[.agg #[.int .u64 0, .int .u64 0, .int .u64 0, .int .u64 0, .int .u64 0, .int .u64 0, .int .u64 0, .int .u64 0, .bool false], .int .i64 4]) ∧ Chg [] w w' := by
  have hix := fun w => index_sb (l := l) (j := 0) (by omega) w
  obtain ⟨s, hs⟩ : ∃ s : ByteArray, ⟨l.toArray⟩ = s := ⟨_, rfl⟩
  have hsz := size_str hs
  rw [hl] at hsz
  obtain ⟨c, hc⟩ : ∃ c, sb l 0 = c := ⟨_, rfl⟩
  rw [hc] at hix h0 h2 h3
  rw [hs] at hix ⊢
  replace hix : ∀ w, (Instr.index 9 (.string s) (.int .i64 0)).run Try.prog w = .ok (.int .u8 (c : Nat)) w := hix
  have t0 : ((c : Int) != 0) = true := by simp; omega
  have t2 : ((c : Int) != 2) = true := by simp; omega
  have t3 : ((c : Int) != 3) = true := by simp; omega
  clear hs hl hc h0 h2 h3
  obtain ⟨W0, hW0⟩ : ∃ W0, w.alloc (.cells #[.int .u64 0, .int .u64 0, .int .u64 0, .int .u64 0, .int .u64 0, .int .u64 0, .int .u64 0, .int .u64 0, .bool false] 26) = W0 := ⟨_, rfl⟩
  obtain ⟨R, hR⟩ : ∃ R, w.heap.size = R := ⟨_, rfl⟩
  have HR := Lib.hid (show U9 W0 R 0 0 false from U9.zero (by rw [← hW0, ← hR]; exact has_alloc_new _ _))
  have HC := Lib.hid (show Chg [] w W0 by rw [← hW0]; exact (Chg.refl _ _).alloc _)
  have HwR := Lib.hid (Nat.le_of_eq hR)
  go_enter Try.func30, Try.ntmps30
  go_upto_region 1 with fail
  try rw [hW0]
  try rw [hR]
  clear hW0 hR
  go_upto_region 2 with fail
  obtain ⟨n0, n1, n2, n3, n4, n5, n6, n7, n8⟩ := HR.out.all
  simp only [lm_zero'] at n0 n1 n2 n3 n4 n5 n6 n7
  obtain ⟨nz0, nz1, nz2, nz3, nz4, nz5, nz6, nz7, nz8⟩ := HR.out.fzs'
  have hll := HR.out.lt
  have HF := Lib.hid (HR.out.put 0 0 false); have HCF := Lib.hid (HC.out.put9 (b := R) (Or.inr HwR.out) 0 0 false)
  go_wp2_with fail
  have hF := HF.out; have hCF := HCF.out
  refine (id ?_ : bodyPost _ _ _ _ _ (put9 W0 R 0 0 false))
  clear HF HCF
  generalize put9 W0 R 0 0 false = W5 at *
  obtain ⟨g0, g1, g2, g3, g4, g5, g6, g7, g8⟩ := hF.all
  simp only [lm_zero'] at g0 g1 g2 g3 g4 g5 g6 g7
  exact bodyPost_ret (v := .tuple #[.agg #[.int .u64 0, .int .u64 0, .int .u64 0, .int .u64 0, .int .u64 0, .int .u64 0, .int .u64 0, .int .u64 0, .bool false], .int .i64 4]) (by simp [results, Try.results30, go_sem, g0, g1, g2, g3, g4, g5, g6, g7, g8]) rfl ⟨rfl, hCF⟩

set_option maxRecDepth 100000 in
set_option maxHeartbeats 8000000 in
theorem ref_dec_zero {l : List UInt8} (hl : l.length = 33) (h0 : sb l 0 = 0) (hz : ∀ i, i < 33 → sb l i = 0) (w : World) :
    Calls Try.prog 30 #[.string ⟨l.toArray⟩] w fun e w' => e = .returned (.tuple #[.agg #[.int .u64 0, .int .u64 0, .int .u64 0, .int .u64 0, .int .u64 0, .int .u64 0, .int .u64 0, .int .u64 0, .bool true], .int .i64 0]) ∧ Chg [] w w' := by
  have hidx := fun (j : Nat) (hj : j < l.length) w => index_sb hj w
  have hix := fun w => index_sb (l := l) (j := 0) (by omega) w
  obtain ⟨s, hs⟩ : ∃ s : ByteArray, ⟨l.toArray⟩ = s := ⟨_, rfl⟩
  have hsz := size_str hs
  rw [hl] at hsz
  rw [h0] at hix
  rw [hs] at hix hidx ⊢
  replace hix : ∀ w, (Instr.index 9 (.string s) (.int .i64 0)).run Try.prog w = .ok (.int .u8 0) w := hix
  rw [hl] at hidx
  have HIx := Lib.hid hidx
  have HZ := Lib.hid hz
  clear hs hl h0 hidx hz
  obtain ⟨W0, hW0⟩ : ∃ W0, w.alloc (.cells #[.int .u64 0, .int .u64 0, .int .u64 0, .int .u64 0, .int .u64 0, .int .u64 0, .int .u64 0, .int .u64 0, .bool false] 26) = W0 := ⟨_, rfl⟩
  obtain ⟨R, hR⟩ : ∃ R, w.heap.size = R := ⟨_, rfl⟩
  have HR := Lib.hid (show U9 W0 R 0 0 false from U9.zero (by rw [← hW0, ← hR]; exact has_alloc_new _ _))
  have HC := Lib.hid (show Chg [] w W0 by rw [← hW0]; exact (Chg.refl _ _).alloc _)
  have HwR := Lib.hid (Nat.le_of_eq hR)
  go_enter Try.func30, Try.ntmps30
  go_upto_region 1 with fail
  try rw [hW0]
  try rw [hR]
  clear hW0 hR
  go_upto_region 4 with fail
  clear hix
  go_wp2_with fail
  go_loopg [4] 33 (fun gk i wr => ∃ n : Nat, gk + n = 33 ∧ i = .int .i64 n ∧ wr = W0)
  case atStart => exact ⟨0, rfl, rfl, rfl⟩
  case round =>
    obtain ⟨n, hn, rfl, hW⟩ := hrel
    subst hW
    by_cases hlt : n < 33
    · have hix := fun w => HIx.out n hlt w
      obtain ⟨c, hc⟩ : ∃ c, sb l n = c := ⟨_, rfl⟩
      rw [hc] at hix
      have HN := Lib.hid hn
      obtain rfl : c = 0 := by rw [← hc]; exact HZ.out n hlt
      replace hix : ∀ w, (Instr.index 9 (.string s) (.int .i64 (n : Nat))).run Try.prog w = .ok (.int .u8 0) w := hix
      clear hc hn
      go_wp2_with fail
      go_roundg (33 - (n + 1))
      case measure => have := HN.out; omega
      case rel => exact ⟨n + 1, by have := HN.out; omega, by go_num, rfl⟩
    · obtain rfl : n = 33 := by omega
      go_upto_region 9 with fail
      obtain ⟨n0, n1, n2, n3, n4, n5, n6, n7, n8⟩ := HR.out.all
      simp only [lm_zero'] at n0 n1 n2 n3 n4 n5 n6 n7
      obtain ⟨nz0, nz1, nz2, nz3, nz4, nz5, nz6, nz7, nz8⟩ := HR.out.fzs'
      have hll := HR.out.lt
      have HF := Lib.hid (HR.out.put 0 0 true); have HCF := Lib.hid (HC.out.put9 (b := R) (Or.inr HwR.out) 0 0 true)
      go_wp2_with fail
      have hF := HF.out; have hCF := HCF.out
      refine (id ?_ : bodyPost _ _ _ _ _ (put9 wr R 0 0 true))
      clear HF HCF
      generalize put9 wr R 0 0 true = W5 at *
      obtain ⟨g0, g1, g2, g3, g4, g5, g6, g7, g8⟩ := hF.all
      simp only [lm_zero'] at g0 g1 g2 g3 g4 g5 g6 g7
      exact bodyPost_ret (v := .tuple #[.agg #[.int .u64 0, .int .u64 0, .int .u64 0, .int .u64 0, .int .u64 0, .int .u64 0, .int .u64 0, .int .u64 0, .bool true], .int .i64 0]) (by simp [results, Try.results30, go_sem, g0, g1, g2, g3, g4, g5, g6, g7, g8]) rfl ⟨rfl, hCF⟩

set_option maxRecDepth 100000 in
set_option maxHeartbeats 8000000 in
theorem ref_dec_zbad {l : List UInt8} (hl : l.length = 33) (h0 : sb l 0 = 0) (hz : ∃ i, i < 33 ∧ sb l i ≠ 0) (w : World) :
    Calls Try.prog 30 #[.string ⟨l.toArray⟩] w fun e w' => e = .returned (.tuple #[.agg #[.int .u64 0, .int .u64 0, .int .u64 0, .int .u64 0, .int .u64 0, .int .u64 0, .int .u64 0, .int .u64 0, .bool false], .int .i64 4]) ∧ Chg [] w w' := by
  have hidx := fun (j : Nat) (hj : j < l.length) w => index_sb hj w
  have hix := fun w => index_sb (l := l) (j := 0) (by omega) w
  obtain ⟨s, hs⟩ : ∃ s : ByteArray, ⟨l.toArray⟩ = s := ⟨_, rfl⟩
  have hsz := size_str hs
  rw [hl] at hsz
  rw [h0] at hix
  rw [hs] at hix hidx ⊢
  replace hix : ∀ w, (Instr.index 9 (.string s) (.int .i64 0)).run Try.prog w = .ok (.int .u8 0) w := hix
  rw [hl] at hidx
  have HIx := Lib.hid hidx
  have HZ := Lib.hid hz
  clear hs hl h0 hidx hz
  obtain ⟨W0, hW0⟩ : ∃ W0, w.alloc (.cells #[.int .u64 0, .int .u64 0, .int .u64 0, .int .u64 0, .int .u64 0, .int .u64 0, .int .u64 0, .int .u64 0, .bool false] 26) = W0 := ⟨_, rfl⟩
  obtain ⟨R, hR⟩ : ∃ R, w.heap.size = R := ⟨_, rfl⟩
  have HR := Lib.hid (show U9 W0 R 0 0 false from U9.zero (by rw [← hW0, ← hR]; exact has_alloc_new _ _))
  have HC := Lib.hid (show Chg [] w W0 by rw [← hW0]; exact (Chg.refl _ _).alloc _)
  have HwR := Lib.hid (Nat.le_of_eq hR)
  go_enter Try.func30, Try.ntmps30
  go_upto_region 1 with fail
  try rw [hW0]
  try rw [hR]
  clear hW0 hR
  go_upto_region 4 with fail
  clear hix
  go_wp2_with fail
  go_loopg [4] 33 (fun gk i wr => ∃ n : Nat, gk + n = 33 ∧ i = .int .i64 n ∧ (∀ i, i < n → sb l i = 0) ∧ wr = W0)
  case atStart => exact ⟨0, rfl, rfl, fun i hi => absurd hi (by omega), rfl⟩
  case round =>
    obtain ⟨n, hn, rfl, hall, hW⟩ := hrel
    subst hW
    by_cases hlt : n < 33
    · have hix := fun w => HIx.out n hlt w
      obtain ⟨c, hc⟩ : ∃ c, sb l n = c := ⟨_, rfl⟩
      rw [hc] at hix
      have HN := Lib.hid hn
      by_cases hc0 : c = 0
      · subst hc0
        replace hix : ∀ w, (Instr.index 9 (.string s) (.int .i64 (n : Nat))).run Try.prog w = .ok (.int .u8 0) w := hix
        have HAll := Lib.hid (show ∀ i, i < n + 1 → sb l i = 0 from fun i hi => by
          by_cases hin : i = n
          · rw [hin]; exact hc
          · exact hall i (by omega))
        clear hc hn hall
        go_wp2_with fail
        go_roundg (33 - (n + 1))
        case measure => have := HN.out; omega
        case rel => exact ⟨n + 1, by have := HN.out; omega, by go_num, HAll.out, rfl⟩
      · have t1 : ((c : Int) != 0) = true := by simp; omega
        clear hc hn hall hc0
        go_upto_region 8 with fail
        obtain ⟨n0, n1, n2, n3, n4, n5, n6, n7, n8⟩ := HR.out.all
        simp only [lm_zero'] at n0 n1 n2 n3 n4 n5 n6 n7
        obtain ⟨nz0, nz1, nz2, nz3, nz4, nz5, nz6, nz7, nz8⟩ := HR.out.fzs'
        have hll := HR.out.lt
        have HF := Lib.hid (HR.out.put 0 0 false); have HCF := Lib.hid (HC.out.put9 (b := R) (Or.inr HwR.out) 0 0 false)
        go_wp2_with fail
        have hF := HF.out; have hCF := HCF.out
        refine (id ?_ : bodyPost _ _ _ _ _ (put9 wr R 0 0 false))
        clear HF HCF
        generalize put9 wr R 0 0 false = W5 at *
        obtain ⟨g0, g1, g2, g3, g4, g5, g6, g7, g8⟩ := hF.all
        simp only [lm_zero'] at g0 g1 g2 g3 g4 g5 g6 g7
        exact bodyPost_ret (v := .tuple #[.agg #[.int .u64 0, .int .u64 0, .int .u64 0, .int .u64 0, .int .u64 0, .int .u64 0, .int .u64 0, .int .u64 0, .bool false], .int .i64 4]) (by simp [results, Try.results30, go_sem, g0, g1, g2, g3, g4, g5, g6, g7, g8]) rfl ⟨rfl, hCF⟩
    · obtain rfl : n = 33 := by omega
      obtain ⟨i, hi, hne⟩ := HZ.out
      exact absurd (hall i hi) hne

set_option maxRecDepth 100000 in
set_option maxHeartbeats 8000000 in
theorem ref_dec_range2 {l : List UInt8} (hl : l.length = 33) (hc : sb l 0 = 2) (hn : ¬ nb (l.drop 1) < PP) (w : World) :
    Calls Try.prog 30 #[.string ⟨l.toArray⟩] w fun e w' => e = .returned (.tuple #[.agg #[.int .u64 0, .int .u64 0, .int .u64 0, .int .u64 0, .int .u64 0, .int .u64 0, .int .u64 0, .int .u64 0, .bool false], .int .i64 20]) ∧ Chg [] w w' := by
  have hix := fun w => index_sb (l := l) (j := 0) (by omega) w
  have hl1 : (l.drop 1).length = 32 := by rw [List.length_drop]; omega
  have hext := drop_str hl
  have hbs := ref_base
  unfold dcCells at hbs
  have HBs := Lib.hid hbs
  clear hbs
  have hdc := fun w => ref_decode_bad (c := cP) hl1 way_P.lt hn w
  rw [zero4] at hdc
  obtain ⟨xv, hxv⟩ : ∃ v : Nat, 0 = v := ⟨_, rfl⟩
  rw [show (#[.int .u64 (lm 0 0 : Nat), .int .u64 (lm 0 1 : Nat), .int .u64 (lm 0 2 : Nat), .int .u64 (lm 0 3 : Nat)] : Array Value) = #[.int .u64 (lm xv 0 : Nat), .int .u64 (lm xv 1 : Nat), .int .u64 (lm xv 2 : Nat), .int .u64 (lm xv 3 : Nat)] by rw [← hxv]] at hdc
  unfold dcCells at hdc
  obtain ⟨s, hs⟩ : ∃ s : ByteArray, ⟨l.toArray⟩ = s := ⟨_, rfl⟩
  obtain ⟨s1, hs1⟩ : ∃ s : ByteArray, ⟨(l.drop 1).toArray⟩ = s := ⟨_, rfl⟩
  have hsz := size_str hs
  rw [hl] at hsz
  rw [hc] at hix
  rw [hs] at hix hext ⊢
  rw [hs1] at hext hdc
  have HDc := Lib.hid hdc
  replace hix : ∀ w, (Instr.index 9 (.string s) (.int .i64 0)).run Try.prog w = .ok (.int .u8 2) w := hix
  clear hs hs1 hl hl1 hc hdc hxv hn
  obtain ⟨W0, hW0⟩ : ∃ W0, w.alloc (.cells #[.int .u64 0, .int .u64 0, .int .u64 0, .int .u64 0, .int .u64 0, .int .u64 0, .int .u64 0, .int .u64 0, .bool false] 26) = W0 := ⟨_, rfl⟩
  obtain ⟨R, hR⟩ : ∃ R, w.heap.size = R := ⟨_, rfl⟩
  have HR := Lib.hid (show U9 W0 R 0 0 false from U9.zero (by rw [← hW0, ← hR]; exact has_alloc_new _ _))
  have HC := Lib.hid (show Chg [] w W0 by rw [← hW0]; exact (Chg.refl _ _).alloc _)
  have HwR := Lib.hid (Nat.le_of_eq hR)
  go_enter Try.func30, Try.ntmps30
  go_upto_region 1 with fail
  try rw [hW0]
  try rw [hR]
  clear hW0 hR
  go_wp2_with fail
  refine (HBs.out _).mono ?_
  rintro e w1 ⟨rfl, hC1⟩
  obtain ⟨W1, hW1⟩ : ∃ W1, w1.alloc (.cells #[.int .u64 (lm PP 0 : Nat), .int .u64 (lm PP 1 : Nat), .int .u64 (lm PP 2 : Nat), .int .u64 (lm PP 3 : Nat), .int .u64 (lm cP 0 : Nat), .int .u64 (lm cP 1 : Nat), .int .u64 (lm cP 2 : Nat), .int .u64 (lm cP 3 : Nat)] 76) = W1 := ⟨_, rfl⟩
  have hA : Chg [] w1 W1 := by rw [← hW1]; exact (Chg.refl _ _).alloc _
  obtain ⟨D, hb⟩ : ∃ b, w1.heap.size = b := ⟨_, rfl⟩
  have HD := Lib.hid (show UD W1 D PP cP by rw [← hb, ← hW1]; exact has_alloc_new _ _)
  replace HR := Lib.hid (HR.out.chg (hC1.trans hA) nmN); replace HC := Lib.hid (HC.out.trans (hC1.trans hA))
  have HW1 := Lib.hid hW1; have Hb := Lib.hid hb
  clear hC1 hA hW1 hb HBs
  go_upto_region 11 with fail
  try rw [HW1.out]
  try rw [Hb.out]
  clear HW1 Hb
  obtain ⟨m0, m1, m2, m3⟩ := four4 fun _ => HD.out.cm
  obtain ⟨c0, c1, c2, c3⟩ := four4 fun k hk => HD.out.cc (k := k) hk
  go_upto_region 11 with fail
  go_cut [6, 7] from 43 to 49 (fun cv lv wx => ∃ cb, cv = .pointer (some ⟨cb, 0, none⟩) ∧ lv = .int .i64 20 ∧ U4 wx cb 24 (lm (xv)) ∧ Chg [] W1 wx ∧ W1.heap.size ≤ cb)
  case first =>
    have hlt0 : D < W1.heap.size := World.block_lt_of_cell? _ _ m0
    have HC4 := Lib.hid (Chg.refl [] W1)
    have H9m0 := Lib.hid m0; have H9m1 := Lib.hid m1; have H9m2 := Lib.hid m2; have H9m3 := Lib.hid m3; have H9c0 := Lib.hid c0; have H9c1 := Lib.hid c1; have H9c2 := Lib.hid c2; have H9c3 := Lib.hid c3
    go_region_held3 (fun w9 => w9.cell? ⟨D, 0, none⟩ = some (.int .u64 (lm PP 0 : Nat)) ∧ w9.cell? ⟨D, 1, none⟩ = some (.int .u64 (lm PP 1 : Nat)) ∧ w9.cell? ⟨D, 2, none⟩ = some (.int .u64 (lm PP 2 : Nat)) ∧ w9.cell? ⟨D, 3, none⟩ = some (.int .u64 (lm PP 3 : Nat)) ∧ w9.cell? ⟨D, 4, none⟩ = some (.int .u64 (lm cP 0 : Nat)) ∧ w9.cell? ⟨D, 5, none⟩ = some (.int .u64 (lm cP 1 : Nat)) ∧ w9.cell? ⟨D, 6, none⟩ = some (.int .u64 (lm cP 2 : Nat)) ∧ w9.cell? ⟨D, 7, none⟩ = some (.int .u64 (lm cP 3 : Nat)))
      (first | with_reducible exact ⟨m0, m1, m2, m3, c0, c1, c2, c3⟩ | with_reducible exact ⟨cell_put4 m0 (Nat.ne_of_lt (Nat.lt_of_lt_of_le hlt0 HGE.out)), cell_put4 m1 (Nat.ne_of_lt (Nat.lt_of_lt_of_le hlt0 HGE.out)), cell_put4 m2 (Nat.ne_of_lt (Nat.lt_of_lt_of_le hlt0 HGE.out)), cell_put4 m3 (Nat.ne_of_lt (Nat.lt_of_lt_of_le hlt0 HGE.out)), cell_put4 c0 (Nat.ne_of_lt (Nat.lt_of_lt_of_le hlt0 HGE.out)), cell_put4 c1 (Nat.ne_of_lt (Nat.lt_of_lt_of_le hlt0 HGE.out)), cell_put4 c2 (Nat.ne_of_lt (Nat.lt_of_lt_of_le hlt0 HGE.out)), cell_put4 c3 (Nat.ne_of_lt (Nat.lt_of_lt_of_le hlt0 HGE.out))⟩ | go_keep)
      (first | (go_at_call 63; go_loud (refine (HDc.out _).mono ?_; rintro e w3 ⟨rfl, hC3⟩; have hC4 := Chg.trans (S := []) (a := W1) (by repeat (with_reducible first | exact HC4.out | apply Chg.drew | apply Chg.drewN | apply Chg.alloc)) hC3; (first | (with_reducible have hN3 := HN3.out.chg hC3 nmN; clear HN3; obtain ⟨n0, n1, n2, n3⟩ := four4 fun _ => (hN3).cell; have nz0 := (hN3).fz 0; have nz1 := (hN3).fz 1; have nz2 := (hN3).fz 2; have nz3 := (hN3).fz 3; have HN3 := Lib.hid hN3; clear hN3) | (with_reducible (first | have hN3 := U4.kept hC3 | have hN3 := U4.kept1 hC3 | have hN3 := U4.kept2 hC3); have HGE := Lib.hid (HC4.out.size); obtain ⟨n0, n1, n2, n3⟩ := four4 fun _ => (hN3).cell; have nz0 := (hN3).fz 0; have nz1 := (hN3).fz 1; have nz2 := (hN3).fz 2; have nz3 := (hN3).fz 3; have HN3 := Lib.hid hN3; clear hN3) | skip); have hsz := hC4.size; replace m0 := hC4.cell H9m0.out nmN; replace m1 := hC4.cell H9m1.out nmN; replace m2 := hC4.cell H9m2.out nmN; replace m3 := hC4.cell H9m3.out nmN; replace c0 := hC4.cell H9c0.out nmN; replace c1 := hC4.cell H9c1.out nmN; replace c2 := hC4.cell H9c2.out nmN; replace c3 := hC4.cell H9c3.out nmN; clear HC4 hC3; have HC4 := Lib.hid hC4; clear hC4)))
    all_goals (go_wp2_with fail; go_meet)
    all_goals (first | with_reducible exact ⟨_, rfl, rfl, U4.new _ _ _, HC4.out.alloc _, HC4.out.size⟩ | with_reducible exact ⟨_, rfl, rfl, U4.put_x HN3.out _, HC4.out.put_x (Or.inr HGE.out) _, HGE.out⟩)
  case rest =>
    obtain ⟨X, rfl, rfl, hN, hC1, hXge⟩ := hcut
    replace HR := Lib.hid (HR.out.chg hC1 nmN); replace HC := Lib.hid (HC.out.trans hC1); replace HD := Lib.hid (HD.out.chg hC1 nmN)
    have HBX := Lib.hid hN
    clear hC1 hN hXge m0 m1 m2 m3 c0 c1 c2 c3
    go_upto_region 13 with fail
    obtain ⟨n0, n1, n2, n3, n4, n5, n6, n7, n8⟩ := HR.out.all
    simp only [lm_zero'] at n0 n1 n2 n3 n4 n5 n6 n7
    obtain ⟨nz0, nz1, nz2, nz3, nz4, nz5, nz6, nz7, nz8⟩ := HR.out.fzs'
    have hll := HR.out.lt
    have HF := Lib.hid (HR.out.put 0 0 false); have HCF := Lib.hid (HC.out.put9 (b := R) (Or.inr HwR.out) 0 0 false)
    go_wp2_with fail
    have hF := HF.out; have hCF := HCF.out
    refine (id ?_ : bodyPost _ _ _ _ _ (put9 wc R 0 0 false))
    clear HF HCF
    generalize put9 wc R 0 0 false = W5 at *
    obtain ⟨g0, g1, g2, g3, g4, g5, g6, g7, g8⟩ := hF.all
    simp only [lm_zero'] at g0 g1 g2 g3 g4 g5 g6 g7
    exact bodyPost_ret (v := .tuple #[.agg #[.int .u64 0, .int .u64 0, .int .u64 0, .int .u64 0, .int .u64 0, .int .u64 0, .int .u64 0, .int .u64 0, .bool false], .int .i64 20]) (by simp [results, Try.results30, go_sem, g0, g1, g2, g3, g4, g5, g6, g7, g8]) rfl ⟨rfl, hCF⟩

set_option maxRecDepth 100000 in
set_option maxHeartbeats 8000000 in
theorem ref_dec_root2 {l : List UInt8} (hl : l.length = 33) (hc : sb l 0 = 2) {x : Fin PP} (hn : nb (l.drop 1) = x.val) (hr : ¬ ((cub x).val ^ rootP % PP) * ((cub x).val ^ rootP % PP) % PP = (cub x).val) (w : World) :
    Calls Try.prog 30 #[.string ⟨l.toArray⟩] w fun e w' => e = .returned (.tuple #[.agg #[.int .u64 0, .int .u64 0, .int .u64 0, .int .u64 0, .int .u64 0, .int .u64 0, .int .u64 0, .int .u64 0, .bool false], .int .i64 30]) ∧ Chg [] w w' := by
  have hix := fun w => index_sb (l := l) (j := 0) (by omega) w
  have hl1 : (l.drop 1).length = 32 := by rw [List.length_drop]; omega
  have hext := drop_str hl
  have hbs := ref_base
  unfold dcCells at hbs
  have HBs := Lib.hid hbs
  clear hbs
  have hdc := fun w => ref_decode_ok (c := cP) hl1 way_P.lt (by rw [hn]; exact x.isLt) w
  rw [hn] at hdc
  have hcb := fun w => ref_cubic (x := x) rfl rfl w
  have hsq := fun w => ref_sqrt_bad (cub x).isLt hr w
  obtain ⟨xv, hxv⟩ : ∃ v, x.val = v := ⟨_, rfl⟩
  obtain ⟨cv, hcv⟩ : ∃ v, (cub x).val = v := ⟨_, rfl⟩
  rw [zero4] at hsq
  obtain ⟨yv, hyv⟩ : ∃ v : Nat, 0 = v := ⟨_, rfl⟩
  rw [show (#[.int .u64 (lm 0 0 : Nat), .int .u64 (lm 0 1 : Nat), .int .u64 (lm 0 2 : Nat), .int .u64 (lm 0 3 : Nat)] : Array Value) = #[.int .u64 (lm yv 0 : Nat), .int .u64 (lm yv 1 : Nat), .int .u64 (lm yv 2 : Nat), .int .u64 (lm yv 3 : Nat)] by rw [← hyv]] at hsq
  clear hyv
  rw [hxv] at hdc hcb
  rw [hcv] at hcb hsq
  unfold dcCells at hsq
  have HCb := Lib.hid hcb; have HSq := Lib.hid hsq
  clear hcb hsq hcv hr
  unfold dcCells at hdc
  obtain ⟨s, hs⟩ : ∃ s : ByteArray, ⟨l.toArray⟩ = s := ⟨_, rfl⟩
  obtain ⟨s1, hs1⟩ : ∃ s : ByteArray, ⟨(l.drop 1).toArray⟩ = s := ⟨_, rfl⟩
  have hsz := size_str hs
  rw [hl] at hsz
  rw [hc] at hix
  rw [hs] at hix hext ⊢
  rw [hs1] at hext hdc
  have HDc := Lib.hid hdc
  replace hix : ∀ w, (Instr.index 9 (.string s) (.int .i64 0)).run Try.prog w = .ok (.int .u8 2) w := hix
  clear hs hs1 hl hl1 hc hdc hxv hn
  obtain ⟨W0, hW0⟩ : ∃ W0, w.alloc (.cells #[.int .u64 0, .int .u64 0, .int .u64 0, .int .u64 0, .int .u64 0, .int .u64 0, .int .u64 0, .int .u64 0, .bool false] 26) = W0 := ⟨_, rfl⟩
  obtain ⟨R, hR⟩ : ∃ R, w.heap.size = R := ⟨_, rfl⟩
  have HR := Lib.hid (show U9 W0 R 0 0 false from U9.zero (by rw [← hW0, ← hR]; exact has_alloc_new _ _))
  have HC := Lib.hid (show Chg [] w W0 by rw [← hW0]; exact (Chg.refl _ _).alloc _)
  have HwR := Lib.hid (Nat.le_of_eq hR)
  go_enter Try.func30, Try.ntmps30
  go_upto_region 1 with fail
  try rw [hW0]
  try rw [hR]
  clear hW0 hR
  go_wp2_with fail
  refine (HBs.out _).mono ?_
  rintro e w1 ⟨rfl, hC1⟩
  obtain ⟨W1, hW1⟩ : ∃ W1, w1.alloc (.cells #[.int .u64 (lm PP 0 : Nat), .int .u64 (lm PP 1 : Nat), .int .u64 (lm PP 2 : Nat), .int .u64 (lm PP 3 : Nat), .int .u64 (lm cP 0 : Nat), .int .u64 (lm cP 1 : Nat), .int .u64 (lm cP 2 : Nat), .int .u64 (lm cP 3 : Nat)] 76) = W1 := ⟨_, rfl⟩
  have hA : Chg [] w1 W1 := by rw [← hW1]; exact (Chg.refl _ _).alloc _
  obtain ⟨D, hb⟩ : ∃ b, w1.heap.size = b := ⟨_, rfl⟩
  have HD := Lib.hid (show UD W1 D PP cP by rw [← hb, ← hW1]; exact has_alloc_new _ _)
  replace HR := Lib.hid (HR.out.chg (hC1.trans hA) nmN); replace HC := Lib.hid (HC.out.trans (hC1.trans hA))
  have HW1 := Lib.hid hW1; have Hb := Lib.hid hb
  clear hC1 hA hW1 hb HBs
  go_upto_region 11 with fail
  try rw [HW1.out]
  try rw [Hb.out]
  clear HW1 Hb
  obtain ⟨m0, m1, m2, m3⟩ := four4 fun _ => HD.out.cm
  obtain ⟨c0, c1, c2, c3⟩ := four4 fun k hk => HD.out.cc (k := k) hk
  go_upto_region 11 with fail
  go_cut [6, 7] from 43 to 49 (fun cv lv wx => ∃ cb, cv = .pointer (some ⟨cb, 0, none⟩) ∧ lv = .int .i64 0 ∧ U4 wx cb 24 (lm (xv)) ∧ Chg [] W1 wx ∧ W1.heap.size ≤ cb)
  case first =>
    have hlt0 : D < W1.heap.size := World.block_lt_of_cell? _ _ m0
    have HC4 := Lib.hid (Chg.refl [] W1)
    have H9m0 := Lib.hid m0; have H9m1 := Lib.hid m1; have H9m2 := Lib.hid m2; have H9m3 := Lib.hid m3; have H9c0 := Lib.hid c0; have H9c1 := Lib.hid c1; have H9c2 := Lib.hid c2; have H9c3 := Lib.hid c3
    go_region_held3 (fun w9 => w9.cell? ⟨D, 0, none⟩ = some (.int .u64 (lm PP 0 : Nat)) ∧ w9.cell? ⟨D, 1, none⟩ = some (.int .u64 (lm PP 1 : Nat)) ∧ w9.cell? ⟨D, 2, none⟩ = some (.int .u64 (lm PP 2 : Nat)) ∧ w9.cell? ⟨D, 3, none⟩ = some (.int .u64 (lm PP 3 : Nat)) ∧ w9.cell? ⟨D, 4, none⟩ = some (.int .u64 (lm cP 0 : Nat)) ∧ w9.cell? ⟨D, 5, none⟩ = some (.int .u64 (lm cP 1 : Nat)) ∧ w9.cell? ⟨D, 6, none⟩ = some (.int .u64 (lm cP 2 : Nat)) ∧ w9.cell? ⟨D, 7, none⟩ = some (.int .u64 (lm cP 3 : Nat)))
      (first | with_reducible exact ⟨m0, m1, m2, m3, c0, c1, c2, c3⟩ | with_reducible exact ⟨cell_put4 m0 (Nat.ne_of_lt (Nat.lt_of_lt_of_le hlt0 HGE.out)), cell_put4 m1 (Nat.ne_of_lt (Nat.lt_of_lt_of_le hlt0 HGE.out)), cell_put4 m2 (Nat.ne_of_lt (Nat.lt_of_lt_of_le hlt0 HGE.out)), cell_put4 m3 (Nat.ne_of_lt (Nat.lt_of_lt_of_le hlt0 HGE.out)), cell_put4 c0 (Nat.ne_of_lt (Nat.lt_of_lt_of_le hlt0 HGE.out)), cell_put4 c1 (Nat.ne_of_lt (Nat.lt_of_lt_of_le hlt0 HGE.out)), cell_put4 c2 (Nat.ne_of_lt (Nat.lt_of_lt_of_le hlt0 HGE.out)), cell_put4 c3 (Nat.ne_of_lt (Nat.lt_of_lt_of_le hlt0 HGE.out))⟩ | go_keep)
      (first | (go_at_call 63; go_loud (refine (HDc.out _).mono ?_; rintro e w3 ⟨rfl, hC3⟩; have hC4 := Chg.trans (S := []) (a := W1) (by repeat (with_reducible first | exact HC4.out | apply Chg.drew | apply Chg.drewN | apply Chg.alloc)) hC3; (first | (with_reducible have hN3 := HN3.out.chg hC3 nmN; clear HN3; obtain ⟨n0, n1, n2, n3⟩ := four4 fun _ => (hN3).cell; have nz0 := (hN3).fz 0; have nz1 := (hN3).fz 1; have nz2 := (hN3).fz 2; have nz3 := (hN3).fz 3; have HN3 := Lib.hid hN3; clear hN3) | (with_reducible (first | have hN3 := U4.kept hC3 | have hN3 := U4.kept1 hC3 | have hN3 := U4.kept2 hC3); have HGE := Lib.hid (HC4.out.size); obtain ⟨n0, n1, n2, n3⟩ := four4 fun _ => (hN3).cell; have nz0 := (hN3).fz 0; have nz1 := (hN3).fz 1; have nz2 := (hN3).fz 2; have nz3 := (hN3).fz 3; have HN3 := Lib.hid hN3; clear hN3) | skip); have hsz := hC4.size; replace m0 := hC4.cell H9m0.out nmN; replace m1 := hC4.cell H9m1.out nmN; replace m2 := hC4.cell H9m2.out nmN; replace m3 := hC4.cell H9m3.out nmN; replace c0 := hC4.cell H9c0.out nmN; replace c1 := hC4.cell H9c1.out nmN; replace c2 := hC4.cell H9c2.out nmN; replace c3 := hC4.cell H9c3.out nmN; clear HC4 hC3; have HC4 := Lib.hid hC4; clear hC4)))
    all_goals (go_wp2_with fail; go_meet)
    all_goals (first | with_reducible exact ⟨_, rfl, rfl, U4.new _ _ _, HC4.out.alloc _, HC4.out.size⟩ | with_reducible exact ⟨_, rfl, rfl, U4.put_x HN3.out _, HC4.out.put_x (Or.inr HGE.out) _, HGE.out⟩)
  case rest =>
    obtain ⟨X, rfl, rfl, hN, hC1, hXge⟩ := hcut
    replace HR := Lib.hid (HR.out.chg hC1 nmN); replace HC := Lib.hid (HC.out.trans hC1); replace HD := Lib.hid (HD.out.chg hC1 nmN)
    have HBX := Lib.hid hN
    clear hC1 hN hXge m0 m1 m2 m3 c0 c1 c2 c3
    go_upto_region 14 with fail
    obtain ⟨D0, D1, D2, D3⟩ := four4 fun _ => (HD.out).cm; obtain ⟨D4, D5, D6, D7⟩ := four4 fun _ => (HD.out).cc
    obtain ⟨x0, x1, x2, x3⟩ := four4 fun _ => HBX.out.cell
    refine abs_region (B := Chg [] wc) (S := Chg [] wc) (by kernel_rfl) ((Chg.refl _ _).drew) ?_
    have hG := good_chg [] wc
    refine Abs.take_np (i := 0) (d := some 54) (v := ?_) rfl rfl (by kernel_rfl) (by kernel_rfl) (by kernel_rfl) hG ⟨by rfl, fun w9 hw9 => Or.inl ?_⟩ ?_
    rotate_left
    · replace D0 := hw9.cell D0 nmN; replace D1 := hw9.cell D1 nmN; replace D2 := hw9.cell D2 nmN; replace D3 := hw9.cell D3 nmN; replace D4 := hw9.cell D4 nmN; replace D5 := hw9.cell D5 nmN; replace D6 := hw9.cell D6 nmN; replace D7 := hw9.cell D7 nmN
      go_simp
      try with_reducible rfl
    simp only [Act.put, stA, stB, stC]
    refine Abs.take_np (i := 1) (d := some 55) (v := ?_) rfl rfl (by kernel_rfl) (by kernel_rfl) (by kernel_rfl) hG ⟨by rfl, fun w9 hw9 => Or.inl ?_⟩ ?_
    rotate_left
    · replace x0 := hw9.cell x0 nmN; replace x1 := hw9.cell x1 nmN; replace x2 := hw9.cell x2 nmN; replace x3 := hw9.cell x3 nmN
      go_simp
      try with_reducible rfl
    simp only [Act.put, stA, stB, stC]
    refine Abs.take_np (i := 2) (d := some 56) (v := _) rfl rfl (by kernel_rfl) (by kernel_rfl) (by kernel_rfl) hG ⟨by rfl, fun w9 hw9 => Or.inr ⟨_, _, ?_, HCb.out w9⟩⟩ ?_
    · go_simp
      try with_reducible rfl
    simp only [Act.put, stA, stB, stC]
    refine Abs.take_np (i := 3) (d := some 57) (v := _) rfl rfl (by kernel_rfl) (by kernel_rfl) (by kernel_rfl) hG ⟨by rfl, fun w9 hw9 => Or.inr ⟨_, _, ?_, HSq.out w9⟩⟩ ?_
    · go_simp
      try with_reducible rfl
    simp only [Act.put, stA, stB, stC]
    refine Abs.take_np (i := 4) (d := some 53) (v := ?_) rfl rfl (by kernel_rfl) (by kernel_rfl) (by kernel_rfl) hG ⟨by rfl, fun w9 hw9 => Or.inl ?_⟩ ?_
    rotate_left
    · go_simp
      try with_reducible rfl
    simp only [Act.put, stA, stB, stC]
    refine Abs.take_np (i := 5) (d := some 58) (v := ?_) rfl rfl (by kernel_rfl) (by kernel_rfl) (by kernel_rfl) hG ⟨by rfl, fun w9 hw9 => Or.inl ?_⟩ ?_
    rotate_left
    · go_simp
      try with_reducible rfl
    simp only [Act.put, stA, stB, stC]
    refine Abs.take_np (i := 6) (d := some 59) (v := ?_) rfl rfl (by kernel_rfl) (by kernel_rfl) (by kernel_rfl) hG ⟨by rfl, fun w9 hw9 => Or.inl ?_⟩ ?_
    rotate_left
    · go_simp
      try with_reducible rfl
    simp only [Act.put, stA, stB, stC]
    refine Abs.alloc4 (i := 7) (t := 24) (X := []) (W := wc) rfl (by kernel_rfl) (by rfl) hG (fun _ h => h) (fun w9 => ?_) (fun Y hY hG => ?_)
    · go_simp
      try with_reducible rfl
    refine Abs.at_put (d := some 8) rfl ?_
    simp only [Act.put, stA, stB, stC]
    refine Abs.store4 (i := 8) (b := Y) (ds := #[.int .u64 (lm yv 0 : Nat), .int .u64 (lm yv 1 : Nat), .int .u64 (lm yv 2 : Nat), .int .u64 (lm yv 3 : Nat)]) rfl (by kernel_rfl) (by rfl) (fun w9 => (((w9.setCell ⟨Y, 0, none⟩ (.int .u64 (lm yv 0 : Nat))).setCell ⟨Y, 1, none⟩ (.int .u64 (lm yv 1 : Nat))).setCell ⟨Y, 2, none⟩ (.int .u64 (lm yv 2 : Nat))).setCell ⟨Y, 3, none⟩ (.int .u64 (lm yv 3 : Nat))) (fun w9 h9 => ⟨?_, ?_, ?_⟩) (fun _ _ h k => Chg.keeps (Or.inr hY) h k) (good_chg [] wc) (fun hG => ?_)
    · have n0 := cell_of_has h9 0; have n1 := cell_of_has h9 1; have n2 := cell_of_has h9 2; have n3 := cell_of_has h9 3
      simp only [glA, glB, glC] at n0 n1 n2 n3
      have z0 := frozen_of_has h9 0; have z1 := frozen_of_has h9 1; have z2 := frozen_of_has h9 2; have z3 := frozen_of_has h9 3
      clear h9
      go_simp
      try with_reducible rfl
    · exact U4.put_x (x := fun _ => 0) h9 yv
    · exact Chg.put_x (Chg.refl _ _) (Or.inl (by simp)) yv
    refine Abs.at_put (d := none) rfl ?_
    simp only [Act.put, stA, stB, stC]
    refine Abs.take_np (i := 9) (d := some 9) (v := ?_) rfl rfl (by kernel_rfl) (by kernel_rfl) (by kernel_rfl) hG ⟨by rfl, fun w9 hw9 => Or.inl ?_⟩ ?_
    rotate_left
    · go_simp
      try with_reducible rfl
    simp only [Act.put, stA, stB, stC]
    refine Abs.done (by kernel_rfl) (fun wx hx => NoPanic.normal ?_) _
    obtain ⟨hC1, hN0⟩ := hx
    have hN : U4 wx Y 24 (lm yv) := hN0
    have HwY := Lib.hid (show w.heap.size ≤ Y ∧ R < Y ∧ X < Y from ⟨Nat.le_trans HC.out.size hY, Nat.lt_of_lt_of_le HR.out.lt hY, Nat.lt_of_lt_of_le HBX.out.lt hY⟩)
    replace HR := Lib.hid (HR.out.chg hC1 nmN); replace HC := Lib.hid (HC.out.trans hC1); replace HD := Lib.hid (HD.out.chg hC1 nmN); replace HBX := Lib.hid (HBX.out.chg hC1 nmN)
    have HBY := Lib.hid hN
    clear hC1 hN hN0 hY hG D0 D1 D2 D3 D4 D5 D6 D7 x0 x1 x2 x3
    go_upto_region 16 with fail
    obtain ⟨n0, n1, n2, n3, n4, n5, n6, n7, n8⟩ := HR.out.all
    simp only [lm_zero'] at n0 n1 n2 n3 n4 n5 n6 n7
    obtain ⟨nz0, nz1, nz2, nz3, nz4, nz5, nz6, nz7, nz8⟩ := HR.out.fzs'
    have hll := HR.out.lt
    have HF := Lib.hid (HR.out.put 0 0 false); have HCF := Lib.hid (HC.out.put9 (b := R) (Or.inr HwR.out) 0 0 false)
    go_wp2_with fail
    have hF := HF.out; have hCF := HCF.out
    refine (id ?_ : bodyPost _ _ _ _ _ (put9 wx R 0 0 false))
    clear HF HCF
    generalize put9 wx R 0 0 false = W5 at *
    obtain ⟨g0, g1, g2, g3, g4, g5, g6, g7, g8⟩ := hF.all
    simp only [lm_zero'] at g0 g1 g2 g3 g4 g5 g6 g7
    exact bodyPost_ret (v := .tuple #[.agg #[.int .u64 0, .int .u64 0, .int .u64 0, .int .u64 0, .int .u64 0, .int .u64 0, .int .u64 0, .int .u64 0, .bool false], .int .i64 30]) (by simp [results, Try.results30, go_sem, g0, g1, g2, g3, g4, g5, g6, g7, g8]) rfl ⟨rfl, hCF⟩

set_option maxRecDepth 100000 in
set_option maxHeartbeats 8000000 in
theorem ref_dec_ok2 {l : List UInt8} (hl : l.length = 33) (hc : sb l 0 = 2) {x : Fin PP} (hn : nb (l.drop 1) = x.val) (hr : ((cub x).val ^ rootP % PP) * ((cub x).val ^ rootP % PP) % PP = (cub x).val) (w : World) :
    Calls Try.prog 30 #[.string ⟨l.toArray⟩] w fun e w' => e = .returned (.tuple #[.agg #[.int .u64 (lm x.val 0 : Nat), .int .u64 (lm x.val 1 : Nat), .int .u64 (lm x.val 2 : Nat), .int .u64 (lm x.val 3 : Nat), .int .u64 (lm (evR PP ((cub x).val ^ rootP % PP)) 0 : Nat), .int .u64 (lm (evR PP ((cub x).val ^ rootP % PP)) 1 : Nat), .int .u64 (lm (evR PP ((cub x).val ^ rootP % PP)) 2 : Nat), .int .u64 (lm (evR PP ((cub x).val ^ rootP % PP)) 3 : Nat), .bool false], .int .i64 0]) ∧ Chg [] w w' := by
  have hix := fun w => index_sb (l := l) (j := 0) (by omega) w
  have hl1 : (l.drop 1).length = 32 := by rw [List.length_drop]; omega
  have hext := drop_str hl
  have hbs := ref_base
  unfold dcCells at hbs
  have HBs := Lib.hid hbs
  clear hbs
  have hdc := fun w => ref_decode_ok (c := cP) hl1 way_P.lt (by rw [hn]; exact x.isLt) w
  rw [hn] at hdc
  have hcb := fun w => ref_cubic (x := x) rfl rfl w
  have hsq := fun w => sqrt_all (cub x).isLt hr w
  obtain ⟨xv, hxv⟩ : ∃ v, x.val = v := ⟨_, rfl⟩
  obtain ⟨cv, hcv⟩ : ∃ v, (cub x).val = v := ⟨_, rfl⟩
  have hyl : evR PP ((cub x).val ^ rootP % PP) < PP := evR_lt (Nat.mod_lt _ (by decide))
  obtain ⟨yv, hyv⟩ : ∃ v, evR PP ((cub x).val ^ rootP % PP) = v := ⟨_, rfl⟩
  rw [hyv] at hsq hyl ⊢
  rw [hxv] at hdc hcb ⊢
  rw [hcv] at hcb hsq
  unfold dcCells at hsq
  have HCb := Lib.hid hcb; have HSq := Lib.hid hsq
  clear hcb hsq hcv hr hyv hyl
  unfold dcCells at hdc
  obtain ⟨s, hs⟩ : ∃ s : ByteArray, ⟨l.toArray⟩ = s := ⟨_, rfl⟩
  obtain ⟨s1, hs1⟩ : ∃ s : ByteArray, ⟨(l.drop 1).toArray⟩ = s := ⟨_, rfl⟩
  have hsz := size_str hs
  rw [hl] at hsz
  rw [hc] at hix
  rw [hs] at hix hext ⊢
  rw [hs1] at hext hdc
  have HDc := Lib.hid hdc
  replace hix : ∀ w, (Instr.index 9 (.string s) (.int .i64 0)).run Try.prog w = .ok (.int .u8 2) w := hix
  clear hs hs1 hl hl1 hc hdc hxv hn
  obtain ⟨W0, hW0⟩ : ∃ W0, w.alloc (.cells #[.int .u64 0, .int .u64 0, .int .u64 0, .int .u64 0, .int .u64 0, .int .u64 0, .int .u64 0, .int .u64 0, .bool false] 26) = W0 := ⟨_, rfl⟩
  obtain ⟨R, hR⟩ : ∃ R, w.heap.size = R := ⟨_, rfl⟩
  have HR := Lib.hid (show U9 W0 R 0 0 false from U9.zero (by rw [← hW0, ← hR]; exact has_alloc_new _ _))
  have HC := Lib.hid (show Chg [] w W0 by rw [← hW0]; exact (Chg.refl _ _).alloc _)
  have HwR := Lib.hid (Nat.le_of_eq hR)
  go_enter Try.func30, Try.ntmps30
  go_upto_region 1 with fail
  try rw [hW0]
  try rw [hR]
  clear hW0 hR
  go_wp2_with fail
  refine (HBs.out _).mono ?_
  rintro e w1 ⟨rfl, hC1⟩
  obtain ⟨W1, hW1⟩ : ∃ W1, w1.alloc (.cells #[.int .u64 (lm PP 0 : Nat), .int .u64 (lm PP 1 : Nat), .int .u64 (lm PP 2 : Nat), .int .u64 (lm PP 3 : Nat), .int .u64 (lm cP 0 : Nat), .int .u64 (lm cP 1 : Nat), .int .u64 (lm cP 2 : Nat), .int .u64 (lm cP 3 : Nat)] 76) = W1 := ⟨_, rfl⟩
  have hA : Chg [] w1 W1 := by rw [← hW1]; exact (Chg.refl _ _).alloc _
  obtain ⟨D, hb⟩ : ∃ b, w1.heap.size = b := ⟨_, rfl⟩
  have HD := Lib.hid (show UD W1 D PP cP by rw [← hb, ← hW1]; exact has_alloc_new _ _)
  replace HR := Lib.hid (HR.out.chg (hC1.trans hA) nmN); replace HC := Lib.hid (HC.out.trans (hC1.trans hA))
  have HW1 := Lib.hid hW1; have Hb := Lib.hid hb
  clear hC1 hA hW1 hb HBs
  go_upto_region 11 with fail
  try rw [HW1.out]
  try rw [Hb.out]
  clear HW1 Hb
  obtain ⟨m0, m1, m2, m3⟩ := four4 fun _ => HD.out.cm
  obtain ⟨c0, c1, c2, c3⟩ := four4 fun k hk => HD.out.cc (k := k) hk
  go_upto_region 11 with fail
  go_cut [6, 7] from 43 to 49 (fun cv lv wx => ∃ cb, cv = .pointer (some ⟨cb, 0, none⟩) ∧ lv = .int .i64 0 ∧ U4 wx cb 24 (lm (xv)) ∧ Chg [] W1 wx ∧ W1.heap.size ≤ cb)
  case first =>
    have hlt0 : D < W1.heap.size := World.block_lt_of_cell? _ _ m0
    have HC4 := Lib.hid (Chg.refl [] W1)
    have H9m0 := Lib.hid m0; have H9m1 := Lib.hid m1; have H9m2 := Lib.hid m2; have H9m3 := Lib.hid m3; have H9c0 := Lib.hid c0; have H9c1 := Lib.hid c1; have H9c2 := Lib.hid c2; have H9c3 := Lib.hid c3
    go_region_held3 (fun w9 => w9.cell? ⟨D, 0, none⟩ = some (.int .u64 (lm PP 0 : Nat)) ∧ w9.cell? ⟨D, 1, none⟩ = some (.int .u64 (lm PP 1 : Nat)) ∧ w9.cell? ⟨D, 2, none⟩ = some (.int .u64 (lm PP 2 : Nat)) ∧ w9.cell? ⟨D, 3, none⟩ = some (.int .u64 (lm PP 3 : Nat)) ∧ w9.cell? ⟨D, 4, none⟩ = some (.int .u64 (lm cP 0 : Nat)) ∧ w9.cell? ⟨D, 5, none⟩ = some (.int .u64 (lm cP 1 : Nat)) ∧ w9.cell? ⟨D, 6, none⟩ = some (.int .u64 (lm cP 2 : Nat)) ∧ w9.cell? ⟨D, 7, none⟩ = some (.int .u64 (lm cP 3 : Nat)))
      (first | with_reducible exact ⟨m0, m1, m2, m3, c0, c1, c2, c3⟩ | with_reducible exact ⟨cell_put4 m0 (Nat.ne_of_lt (Nat.lt_of_lt_of_le hlt0 HGE.out)), cell_put4 m1 (Nat.ne_of_lt (Nat.lt_of_lt_of_le hlt0 HGE.out)), cell_put4 m2 (Nat.ne_of_lt (Nat.lt_of_lt_of_le hlt0 HGE.out)), cell_put4 m3 (Nat.ne_of_lt (Nat.lt_of_lt_of_le hlt0 HGE.out)), cell_put4 c0 (Nat.ne_of_lt (Nat.lt_of_lt_of_le hlt0 HGE.out)), cell_put4 c1 (Nat.ne_of_lt (Nat.lt_of_lt_of_le hlt0 HGE.out)), cell_put4 c2 (Nat.ne_of_lt (Nat.lt_of_lt_of_le hlt0 HGE.out)), cell_put4 c3 (Nat.ne_of_lt (Nat.lt_of_lt_of_le hlt0 HGE.out))⟩ | go_keep)
      (first | (go_at_call 63; go_loud (refine (HDc.out _).mono ?_; rintro e w3 ⟨rfl, hC3⟩; have hC4 := Chg.trans (S := []) (a := W1) (by repeat (with_reducible first | exact HC4.out | apply Chg.drew | apply Chg.drewN | apply Chg.alloc)) hC3; (first | (with_reducible have hN3 := HN3.out.chg hC3 nmN; clear HN3; obtain ⟨n0, n1, n2, n3⟩ := four4 fun _ => (hN3).cell; have nz0 := (hN3).fz 0; have nz1 := (hN3).fz 1; have nz2 := (hN3).fz 2; have nz3 := (hN3).fz 3; have HN3 := Lib.hid hN3; clear hN3) | (with_reducible (first | have hN3 := U4.kept hC3 | have hN3 := U4.kept1 hC3 | have hN3 := U4.kept2 hC3); have HGE := Lib.hid (HC4.out.size); obtain ⟨n0, n1, n2, n3⟩ := four4 fun _ => (hN3).cell; have nz0 := (hN3).fz 0; have nz1 := (hN3).fz 1; have nz2 := (hN3).fz 2; have nz3 := (hN3).fz 3; have HN3 := Lib.hid hN3; clear hN3) | skip); have hsz := hC4.size; replace m0 := hC4.cell H9m0.out nmN; replace m1 := hC4.cell H9m1.out nmN; replace m2 := hC4.cell H9m2.out nmN; replace m3 := hC4.cell H9m3.out nmN; replace c0 := hC4.cell H9c0.out nmN; replace c1 := hC4.cell H9c1.out nmN; replace c2 := hC4.cell H9c2.out nmN; replace c3 := hC4.cell H9c3.out nmN; clear HC4 hC3; have HC4 := Lib.hid hC4; clear hC4)))
    all_goals (go_wp2_with fail; go_meet)
    all_goals (first | with_reducible exact ⟨_, rfl, rfl, U4.new _ _ _, HC4.out.alloc _, HC4.out.size⟩ | with_reducible exact ⟨_, rfl, rfl, U4.put_x HN3.out _, HC4.out.put_x (Or.inr HGE.out) _, HGE.out⟩)
  case rest =>
    obtain ⟨X, rfl, rfl, hN, hC1, hXge⟩ := hcut
    replace HR := Lib.hid (HR.out.chg hC1 nmN); replace HC := Lib.hid (HC.out.trans hC1); replace HD := Lib.hid (HD.out.chg hC1 nmN)
    have HBX := Lib.hid hN
    clear hC1 hN hXge m0 m1 m2 m3 c0 c1 c2 c3
    go_upto_region 14 with fail
    obtain ⟨D0, D1, D2, D3⟩ := four4 fun _ => (HD.out).cm; obtain ⟨D4, D5, D6, D7⟩ := four4 fun _ => (HD.out).cc
    obtain ⟨x0, x1, x2, x3⟩ := four4 fun _ => HBX.out.cell
    refine abs_region (B := Chg [] wc) (S := Chg [] wc) (by kernel_rfl) ((Chg.refl _ _).drew) ?_
    have hG := good_chg [] wc
    refine Abs.take_np (i := 0) (d := some 54) (v := ?_) rfl rfl (by kernel_rfl) (by kernel_rfl) (by kernel_rfl) hG ⟨by rfl, fun w9 hw9 => Or.inl ?_⟩ ?_
    rotate_left
    · replace D0 := hw9.cell D0 nmN; replace D1 := hw9.cell D1 nmN; replace D2 := hw9.cell D2 nmN; replace D3 := hw9.cell D3 nmN; replace D4 := hw9.cell D4 nmN; replace D5 := hw9.cell D5 nmN; replace D6 := hw9.cell D6 nmN; replace D7 := hw9.cell D7 nmN
      go_simp
      try with_reducible rfl
    simp only [Act.put, stA, stB, stC]
    refine Abs.take_np (i := 1) (d := some 55) (v := ?_) rfl rfl (by kernel_rfl) (by kernel_rfl) (by kernel_rfl) hG ⟨by rfl, fun w9 hw9 => Or.inl ?_⟩ ?_
    rotate_left
    · replace x0 := hw9.cell x0 nmN; replace x1 := hw9.cell x1 nmN; replace x2 := hw9.cell x2 nmN; replace x3 := hw9.cell x3 nmN
      go_simp
      try with_reducible rfl
    simp only [Act.put, stA, stB, stC]
    refine Abs.take_np (i := 2) (d := some 56) (v := _) rfl rfl (by kernel_rfl) (by kernel_rfl) (by kernel_rfl) hG ⟨by rfl, fun w9 hw9 => Or.inr ⟨_, _, ?_, HCb.out w9⟩⟩ ?_
    · go_simp
      try with_reducible rfl
    simp only [Act.put, stA, stB, stC]
    refine Abs.take_np (i := 3) (d := some 57) (v := _) rfl rfl (by kernel_rfl) (by kernel_rfl) (by kernel_rfl) hG ⟨by rfl, fun w9 hw9 => Or.inr ⟨_, _, ?_, HSq.out w9⟩⟩ ?_
    · go_simp
      try with_reducible rfl
    simp only [Act.put, stA, stB, stC]
    refine Abs.take_np (i := 4) (d := some 53) (v := ?_) rfl rfl (by kernel_rfl) (by kernel_rfl) (by kernel_rfl) hG ⟨by rfl, fun w9 hw9 => Or.inl ?_⟩ ?_
    rotate_left
    · go_simp
      try with_reducible rfl
    simp only [Act.put, stA, stB, stC]
    refine Abs.take_np (i := 5) (d := some 58) (v := ?_) rfl rfl (by kernel_rfl) (by kernel_rfl) (by kernel_rfl) hG ⟨by rfl, fun w9 hw9 => Or.inl ?_⟩ ?_
    rotate_left
    · go_simp
      try with_reducible rfl
    simp only [Act.put, stA, stB, stC]
    refine Abs.take_np (i := 6) (d := some 59) (v := ?_) rfl rfl (by kernel_rfl) (by kernel_rfl) (by kernel_rfl) hG ⟨by rfl, fun w9 hw9 => Or.inl ?_⟩ ?_
    rotate_left
    · go_simp
      try with_reducible rfl
    simp only [Act.put, stA, stB, stC]
    refine Abs.alloc4 (i := 7) (t := 24) (X := []) (W := wc) rfl (by kernel_rfl) (by rfl) hG (fun _ h => h) (fun w9 => ?_) (fun Y hY hG => ?_)
    · go_simp
      try with_reducible rfl
    refine Abs.at_put (d := some 8) rfl ?_
    simp only [Act.put, stA, stB, stC]
    refine Abs.store4 (i := 8) (b := Y) (ds := #[.int .u64 (lm yv 0 : Nat), .int .u64 (lm yv 1 : Nat), .int .u64 (lm yv 2 : Nat), .int .u64 (lm yv 3 : Nat)]) rfl (by kernel_rfl) (by rfl) (fun w9 => (((w9.setCell ⟨Y, 0, none⟩ (.int .u64 (lm yv 0 : Nat))).setCell ⟨Y, 1, none⟩ (.int .u64 (lm yv 1 : Nat))).setCell ⟨Y, 2, none⟩ (.int .u64 (lm yv 2 : Nat))).setCell ⟨Y, 3, none⟩ (.int .u64 (lm yv 3 : Nat))) (fun w9 h9 => ⟨?_, ?_, ?_⟩) (fun _ _ h k => Chg.keeps (Or.inr hY) h k) (good_chg [] wc) (fun hG => ?_)
    · have n0 := cell_of_has h9 0; have n1 := cell_of_has h9 1; have n2 := cell_of_has h9 2; have n3 := cell_of_has h9 3
      simp only [glA, glB, glC] at n0 n1 n2 n3
      have z0 := frozen_of_has h9 0; have z1 := frozen_of_has h9 1; have z2 := frozen_of_has h9 2; have z3 := frozen_of_has h9 3
      clear h9
      go_simp
      try with_reducible rfl
    · exact U4.put_x (x := fun _ => 0) h9 yv
    · exact Chg.put_x (Chg.refl _ _) (Or.inl (by simp)) yv
    refine Abs.at_put (d := none) rfl ?_
    simp only [Act.put, stA, stB, stC]
    refine Abs.take_np (i := 9) (d := some 9) (v := ?_) rfl rfl (by kernel_rfl) (by kernel_rfl) (by kernel_rfl) hG ⟨by rfl, fun w9 hw9 => Or.inl ?_⟩ ?_
    rotate_left
    · go_simp
      try with_reducible rfl
    simp only [Act.put, stA, stB, stC]
    refine Abs.done (by kernel_rfl) (fun wx hx => NoPanic.normal ?_) _
    obtain ⟨hC1, hN0⟩ := hx
    have hN : U4 wx Y 24 (lm yv) := hN0
    have HwY := Lib.hid (show w.heap.size ≤ Y ∧ R < Y ∧ X < Y from ⟨Nat.le_trans HC.out.size hY, Nat.lt_of_lt_of_le HR.out.lt hY, Nat.lt_of_lt_of_le HBX.out.lt hY⟩)
    replace HR := Lib.hid (HR.out.chg hC1 nmN); replace HC := Lib.hid (HC.out.trans hC1); replace HD := Lib.hid (HD.out.chg hC1 nmN); replace HBX := Lib.hid (HBX.out.chg hC1 nmN)
    have HBY := Lib.hid hN
    clear hC1 hN hN0 hY hG D0 D1 D2 D3 D4 D5 D6 D7 x0 x1 x2 x3
    go_upto_region 19 with fail
    obtain ⟨x0, x1, x2, x3⟩ := four4 fun _ => HBX.out.cell
    obtain ⟨y0, y1, y2, y3⟩ := four4 fun _ => HBY.out.cell
    obtain ⟨n0, n1, n2, n3, n4, n5, n6, n7, n8⟩ := HR.out.all
    simp only [lm_zero'] at n0 n1 n2 n3 n4 n5 n6 n7
    obtain ⟨nz0, nz1, nz2, nz3, nz4, nz5, nz6, nz7, nz8⟩ := HR.out.fzs'
    have hll := HR.out.lt
    have HF9 := Lib.hid (HR.out.put xv yv false); have HCF := Lib.hid (HC.out.put9 (b := R) (Or.inr HwR.out) xv yv false)
    go_wp2_with fail
    have hF := HF9.out; have hCF := HCF.out
    refine (id ?_ : bodyPost _ _ _ _ _ (put9 wx R xv yv false))
    clear HF9 HCF
    generalize put9 wx R xv yv false = W5 at *
    obtain ⟨g0, g1, g2, g3, g4, g5, g6, g7, g8⟩ := hF.all
    exact bodyPost_ret (v := .tuple #[.agg #[.int .u64 (lm xv 0 : Nat), .int .u64 (lm xv 1 : Nat), .int .u64 (lm xv 2 : Nat), .int .u64 (lm xv 3 : Nat), .int .u64 (lm yv 0 : Nat), .int .u64 (lm yv 1 : Nat), .int .u64 (lm yv 2 : Nat), .int .u64 (lm yv 3 : Nat), .bool false], .int .i64 0]) (by simp [results, Try.results30, go_sem, g0, g1, g2, g3, g4, g5, g6, g7, g8]) rfl ⟨rfl, hCF⟩

set_option maxRecDepth 100000 in
set_option maxHeartbeats 8000000 in
theorem ref_dec_range3 {l : List UInt8} (hl : l.length = 33) (hc : sb l 0 = 3) (hn : ¬ nb (l.drop 1) < PP) (w : World) :
    Calls Try.prog 30 #[.string ⟨l.toArray⟩] w fun e w' => e = .returned (.tuple #[.agg #[.int .u64 0, .int .u64 0, .int .u64 0, .int .u64 0, .int .u64 0, .int .u64 0, .int .u64 0, .int .u64 0, .bool false], .int .i64 20]) ∧ Chg [] w w' := by
  have hix := fun w => index_sb (l := l) (j := 0) (by omega) w
  have hl1 : (l.drop 1).length = 32 := by rw [List.length_drop]; omega
  have hext := drop_str hl
  have hbs := ref_base
  unfold dcCells at hbs
  have HBs := Lib.hid hbs
  clear hbs
  have hdc := fun w => ref_decode_bad (c := cP) hl1 way_P.lt hn w
  rw [zero4] at hdc
  obtain ⟨xv, hxv⟩ : ∃ v : Nat, 0 = v := ⟨_, rfl⟩
  rw [show (#[.int .u64 (lm 0 0 : Nat), .int .u64 (lm 0 1 : Nat), .int .u64 (lm 0 2 : Nat), .int .u64 (lm 0 3 : Nat)] : Array Value) = #[.int .u64 (lm xv 0 : Nat), .int .u64 (lm xv 1 : Nat), .int .u64 (lm xv 2 : Nat), .int .u64 (lm xv 3 : Nat)] by rw [← hxv]] at hdc
  unfold dcCells at hdc
  obtain ⟨s, hs⟩ : ∃ s : ByteArray, ⟨l.toArray⟩ = s := ⟨_, rfl⟩
  obtain ⟨s1, hs1⟩ : ∃ s : ByteArray, ⟨(l.drop 1).toArray⟩ = s := ⟨_, rfl⟩
  have hsz := size_str hs
  rw [hl] at hsz
  rw [hc] at hix
  rw [hs] at hix hext ⊢
  rw [hs1] at hext hdc
  have HDc := Lib.hid hdc
  replace hix : ∀ w, (Instr.index 9 (.string s) (.int .i64 0)).run Try.prog w = .ok (.int .u8 3) w := hix
  clear hs hs1 hl hl1 hc hdc hxv hn
  obtain ⟨W0, hW0⟩ : ∃ W0, w.alloc (.cells #[.int .u64 0, .int .u64 0, .int .u64 0, .int .u64 0, .int .u64 0, .int .u64 0, .int .u64 0, .int .u64 0, .bool false] 26) = W0 := ⟨_, rfl⟩
  obtain ⟨R, hR⟩ : ∃ R, w.heap.size = R := ⟨_, rfl⟩
  have HR := Lib.hid (show U9 W0 R 0 0 false from U9.zero (by rw [← hW0, ← hR]; exact has_alloc_new _ _))
  have HC := Lib.hid (show Chg [] w W0 by rw [← hW0]; exact (Chg.refl _ _).alloc _)
  have HwR := Lib.hid (Nat.le_of_eq hR)
  go_enter Try.func30, Try.ntmps30
  go_upto_region 1 with fail
  try rw [hW0]
  try rw [hR]
  clear hW0 hR
  go_wp2_with fail
  refine (HBs.out _).mono ?_
  rintro e w1 ⟨rfl, hC1⟩
  obtain ⟨W1, hW1⟩ : ∃ W1, w1.alloc (.cells #[.int .u64 (lm PP 0 : Nat), .int .u64 (lm PP 1 : Nat), .int .u64 (lm PP 2 : Nat), .int .u64 (lm PP 3 : Nat), .int .u64 (lm cP 0 : Nat), .int .u64 (lm cP 1 : Nat), .int .u64 (lm cP 2 : Nat), .int .u64 (lm cP 3 : Nat)] 76) = W1 := ⟨_, rfl⟩
  have hA : Chg [] w1 W1 := by rw [← hW1]; exact (Chg.refl _ _).alloc _
  obtain ⟨D, hb⟩ : ∃ b, w1.heap.size = b := ⟨_, rfl⟩
  have HD := Lib.hid (show UD W1 D PP cP by rw [← hb, ← hW1]; exact has_alloc_new _ _)
  replace HR := Lib.hid (HR.out.chg (hC1.trans hA) nmN); replace HC := Lib.hid (HC.out.trans (hC1.trans hA))
  have HW1 := Lib.hid hW1; have Hb := Lib.hid hb
  clear hC1 hA hW1 hb HBs
  go_upto_region 11 with fail
  try rw [HW1.out]
  try rw [Hb.out]
  clear HW1 Hb
  obtain ⟨m0, m1, m2, m3⟩ := four4 fun _ => HD.out.cm
  obtain ⟨c0, c1, c2, c3⟩ := four4 fun k hk => HD.out.cc (k := k) hk
  go_upto_region 11 with fail
  go_cut [6, 7] from 43 to 49 (fun cv lv wx => ∃ cb, cv = .pointer (some ⟨cb, 0, none⟩) ∧ lv = .int .i64 20 ∧ U4 wx cb 24 (lm (xv)) ∧ Chg [] W1 wx ∧ W1.heap.size ≤ cb)
  case first =>
    have hlt0 : D < W1.heap.size := World.block_lt_of_cell? _ _ m0
    have HC4 := Lib.hid (Chg.refl [] W1)
    have H9m0 := Lib.hid m0; have H9m1 := Lib.hid m1; have H9m2 := Lib.hid m2; have H9m3 := Lib.hid m3; have H9c0 := Lib.hid c0; have H9c1 := Lib.hid c1; have H9c2 := Lib.hid c2; have H9c3 := Lib.hid c3
    go_region_held3 (fun w9 => w9.cell? ⟨D, 0, none⟩ = some (.int .u64 (lm PP 0 : Nat)) ∧ w9.cell? ⟨D, 1, none⟩ = some (.int .u64 (lm PP 1 : Nat)) ∧ w9.cell? ⟨D, 2, none⟩ = some (.int .u64 (lm PP 2 : Nat)) ∧ w9.cell? ⟨D, 3, none⟩ = some (.int .u64 (lm PP 3 : Nat)) ∧ w9.cell? ⟨D, 4, none⟩ = some (.int .u64 (lm cP 0 : Nat)) ∧ w9.cell? ⟨D, 5, none⟩ = some (.int .u64 (lm cP 1 : Nat)) ∧ w9.cell? ⟨D, 6, none⟩ = some (.int .u64 (lm cP 2 : Nat)) ∧ w9.cell? ⟨D, 7, none⟩ = some (.int .u64 (lm cP 3 : Nat)))
      (first | with_reducible exact ⟨m0, m1, m2, m3, c0, c1, c2, c3⟩ | with_reducible exact ⟨cell_put4 m0 (Nat.ne_of_lt (Nat.lt_of_lt_of_le hlt0 HGE.out)), cell_put4 m1 (Nat.ne_of_lt (Nat.lt_of_lt_of_le hlt0 HGE.out)), cell_put4 m2 (Nat.ne_of_lt (Nat.lt_of_lt_of_le hlt0 HGE.out)), cell_put4 m3 (Nat.ne_of_lt (Nat.lt_of_lt_of_le hlt0 HGE.out)), cell_put4 c0 (Nat.ne_of_lt (Nat.lt_of_lt_of_le hlt0 HGE.out)), cell_put4 c1 (Nat.ne_of_lt (Nat.lt_of_lt_of_le hlt0 HGE.out)), cell_put4 c2 (Nat.ne_of_lt (Nat.lt_of_lt_of_le hlt0 HGE.out)), cell_put4 c3 (Nat.ne_of_lt (Nat.lt_of_lt_of_le hlt0 HGE.out))⟩ | go_keep)
      (first | (go_at_call 63; go_loud (refine (HDc.out _).mono ?_; rintro e w3 ⟨rfl, hC3⟩; have hC4 := Chg.trans (S := []) (a := W1) (by repeat (with_reducible first | exact HC4.out | apply Chg.drew | apply Chg.drewN | apply Chg.alloc)) hC3; (first | (with_reducible have hN3 := HN3.out.chg hC3 nmN; clear HN3; obtain ⟨n0, n1, n2, n3⟩ := four4 fun _ => (hN3).cell; have nz0 := (hN3).fz 0; have nz1 := (hN3).fz 1; have nz2 := (hN3).fz 2; have nz3 := (hN3).fz 3; have HN3 := Lib.hid hN3; clear hN3) | (with_reducible (first | have hN3 := U4.kept hC3 | have hN3 := U4.kept1 hC3 | have hN3 := U4.kept2 hC3); have HGE := Lib.hid (HC4.out.size); obtain ⟨n0, n1, n2, n3⟩ := four4 fun _ => (hN3).cell; have nz0 := (hN3).fz 0; have nz1 := (hN3).fz 1; have nz2 := (hN3).fz 2; have nz3 := (hN3).fz 3; have HN3 := Lib.hid hN3; clear hN3) | skip); have hsz := hC4.size; replace m0 := hC4.cell H9m0.out nmN; replace m1 := hC4.cell H9m1.out nmN; replace m2 := hC4.cell H9m2.out nmN; replace m3 := hC4.cell H9m3.out nmN; replace c0 := hC4.cell H9c0.out nmN; replace c1 := hC4.cell H9c1.out nmN; replace c2 := hC4.cell H9c2.out nmN; replace c3 := hC4.cell H9c3.out nmN; clear HC4 hC3; have HC4 := Lib.hid hC4; clear hC4)))
    all_goals (go_wp2_with fail; go_meet)
    all_goals (first | with_reducible exact ⟨_, rfl, rfl, U4.new _ _ _, HC4.out.alloc _, HC4.out.size⟩ | with_reducible exact ⟨_, rfl, rfl, U4.put_x HN3.out _, HC4.out.put_x (Or.inr HGE.out) _, HGE.out⟩)
  case rest =>
    obtain ⟨X, rfl, rfl, hN, hC1, hXge⟩ := hcut
    replace HR := Lib.hid (HR.out.chg hC1 nmN); replace HC := Lib.hid (HC.out.trans hC1); replace HD := Lib.hid (HD.out.chg hC1 nmN)
    have HBX := Lib.hid hN
    clear hC1 hN hXge m0 m1 m2 m3 c0 c1 c2 c3
    go_upto_region 13 with fail
    obtain ⟨n0, n1, n2, n3, n4, n5, n6, n7, n8⟩ := HR.out.all
    simp only [lm_zero'] at n0 n1 n2 n3 n4 n5 n6 n7
    obtain ⟨nz0, nz1, nz2, nz3, nz4, nz5, nz6, nz7, nz8⟩ := HR.out.fzs'
    have hll := HR.out.lt
    have HF := Lib.hid (HR.out.put 0 0 false); have HCF := Lib.hid (HC.out.put9 (b := R) (Or.inr HwR.out) 0 0 false)
    go_wp2_with fail
    have hF := HF.out; have hCF := HCF.out
    refine (id ?_ : bodyPost _ _ _ _ _ (put9 wc R 0 0 false))
    clear HF HCF
    generalize put9 wc R 0 0 false = W5 at *
    obtain ⟨g0, g1, g2, g3, g4, g5, g6, g7, g8⟩ := hF.all
    simp only [lm_zero'] at g0 g1 g2 g3 g4 g5 g6 g7
    exact bodyPost_ret (v := .tuple #[.agg #[.int .u64 0, .int .u64 0, .int .u64 0, .int .u64 0, .int .u64 0, .int .u64 0, .int .u64 0, .int .u64 0, .bool false], .int .i64 20]) (by simp [results, Try.results30, go_sem, g0, g1, g2, g3, g4, g5, g6, g7, g8]) rfl ⟨rfl, hCF⟩

set_option maxRecDepth 100000 in
set_option maxHeartbeats 8000000 in
theorem ref_dec_root3 {l : List UInt8} (hl : l.length = 33) (hc : sb l 0 = 3) {x : Fin PP} (hn : nb (l.drop 1) = x.val) (hr : ¬ ((cub x).val ^ rootP % PP) * ((cub x).val ^ rootP % PP) % PP = (cub x).val) (w : World) :
    Calls Try.prog 30 #[.string ⟨l.toArray⟩] w fun e w' => e = .returned (.tuple #[.agg #[.int .u64 0, .int .u64 0, .int .u64 0, .int .u64 0, .int .u64 0, .int .u64 0, .int .u64 0, .int .u64 0, .bool false], .int .i64 30]) ∧ Chg [] w w' := by
  have hix := fun w => index_sb (l := l) (j := 0) (by omega) w
  have hl1 : (l.drop 1).length = 32 := by rw [List.length_drop]; omega
  have hext := drop_str hl
  have hbs := ref_base
  unfold dcCells at hbs
  have HBs := Lib.hid hbs
  clear hbs
  have hdc := fun w => ref_decode_ok (c := cP) hl1 way_P.lt (by rw [hn]; exact x.isLt) w
  rw [hn] at hdc
  have hcb := fun w => ref_cubic (x := x) rfl rfl w
  have hsq := fun w => ref_sqrt_bad (cub x).isLt hr w
  obtain ⟨xv, hxv⟩ : ∃ v, x.val = v := ⟨_, rfl⟩
  obtain ⟨cv, hcv⟩ : ∃ v, (cub x).val = v := ⟨_, rfl⟩
  rw [zero4] at hsq
  obtain ⟨yv, hyv⟩ : ∃ v : Nat, 0 = v := ⟨_, rfl⟩
  rw [show (#[.int .u64 (lm 0 0 : Nat), .int .u64 (lm 0 1 : Nat), .int .u64 (lm 0 2 : Nat), .int .u64 (lm 0 3 : Nat)] : Array Value) = #[.int .u64 (lm yv 0 : Nat), .int .u64 (lm yv 1 : Nat), .int .u64 (lm yv 2 : Nat), .int .u64 (lm yv 3 : Nat)] by rw [← hyv]] at hsq
  clear hyv
  rw [hxv] at hdc hcb
  rw [hcv] at hcb hsq
  unfold dcCells at hsq
  have HCb := Lib.hid hcb; have HSq := Lib.hid hsq
  clear hcb hsq hcv hr
  unfold dcCells at hdc
  obtain ⟨s, hs⟩ : ∃ s : ByteArray, ⟨l.toArray⟩ = s := ⟨_, rfl⟩
  obtain ⟨s1, hs1⟩ : ∃ s : ByteArray, ⟨(l.drop 1).toArray⟩ = s := ⟨_, rfl⟩
  have hsz := size_str hs
  rw [hl] at hsz
  rw [hc] at hix
  rw [hs] at hix hext ⊢
  rw [hs1] at hext hdc
  have HDc := Lib.hid hdc
  replace hix : ∀ w, (Instr.index 9 (.string s) (.int .i64 0)).run Try.prog w = .ok (.int .u8 3) w := hix
  clear hs hs1 hl hl1 hc hdc hxv hn
  obtain ⟨W0, hW0⟩ : ∃ W0, w.alloc (.cells #[.int .u64 0, .int .u64 0, .int .u64 0, .int .u64 0, .int .u64 0, .int .u64 0, .int .u64 0, .int .u64 0, .bool false] 26) = W0 := ⟨_, rfl⟩
  obtain ⟨R, hR⟩ : ∃ R, w.heap.size = R := ⟨_, rfl⟩
  have HR := Lib.hid (show U9 W0 R 0 0 false from U9.zero (by rw [← hW0, ← hR]; exact has_alloc_new _ _))
  have HC := Lib.hid (show Chg [] w W0 by rw [← hW0]; exact (Chg.refl _ _).alloc _)
  have HwR := Lib.hid (Nat.le_of_eq hR)
  go_enter Try.func30, Try.ntmps30
  go_upto_region 1 with fail
  try rw [hW0]
  try rw [hR]
  clear hW0 hR
  go_wp2_with fail
  refine (HBs.out _).mono ?_
  rintro e w1 ⟨rfl, hC1⟩
  obtain ⟨W1, hW1⟩ : ∃ W1, w1.alloc (.cells #[.int .u64 (lm PP 0 : Nat), .int .u64 (lm PP 1 : Nat), .int .u64 (lm PP 2 : Nat), .int .u64 (lm PP 3 : Nat), .int .u64 (lm cP 0 : Nat), .int .u64 (lm cP 1 : Nat), .int .u64 (lm cP 2 : Nat), .int .u64 (lm cP 3 : Nat)] 76) = W1 := ⟨_, rfl⟩
  have hA : Chg [] w1 W1 := by rw [← hW1]; exact (Chg.refl _ _).alloc _
  obtain ⟨D, hb⟩ : ∃ b, w1.heap.size = b := ⟨_, rfl⟩
  have HD := Lib.hid (show UD W1 D PP cP by rw [← hb, ← hW1]; exact has_alloc_new _ _)
  replace HR := Lib.hid (HR.out.chg (hC1.trans hA) nmN); replace HC := Lib.hid (HC.out.trans (hC1.trans hA))
  have HW1 := Lib.hid hW1; have Hb := Lib.hid hb
  clear hC1 hA hW1 hb HBs
  go_upto_region 11 with fail
  try rw [HW1.out]
  try rw [Hb.out]
  clear HW1 Hb
  obtain ⟨m0, m1, m2, m3⟩ := four4 fun _ => HD.out.cm
  obtain ⟨c0, c1, c2, c3⟩ := four4 fun k hk => HD.out.cc (k := k) hk
  go_upto_region 11 with fail
  go_cut [6, 7] from 43 to 49 (fun cv lv wx => ∃ cb, cv = .pointer (some ⟨cb, 0, none⟩) ∧ lv = .int .i64 0 ∧ U4 wx cb 24 (lm (xv)) ∧ Chg [] W1 wx ∧ W1.heap.size ≤ cb)
  case first =>
    have hlt0 : D < W1.heap.size := World.block_lt_of_cell? _ _ m0
    have HC4 := Lib.hid (Chg.refl [] W1)
    have H9m0 := Lib.hid m0; have H9m1 := Lib.hid m1; have H9m2 := Lib.hid m2; have H9m3 := Lib.hid m3; have H9c0 := Lib.hid c0; have H9c1 := Lib.hid c1; have H9c2 := Lib.hid c2; have H9c3 := Lib.hid c3
    go_region_held3 (fun w9 => w9.cell? ⟨D, 0, none⟩ = some (.int .u64 (lm PP 0 : Nat)) ∧ w9.cell? ⟨D, 1, none⟩ = some (.int .u64 (lm PP 1 : Nat)) ∧ w9.cell? ⟨D, 2, none⟩ = some (.int .u64 (lm PP 2 : Nat)) ∧ w9.cell? ⟨D, 3, none⟩ = some (.int .u64 (lm PP 3 : Nat)) ∧ w9.cell? ⟨D, 4, none⟩ = some (.int .u64 (lm cP 0 : Nat)) ∧ w9.cell? ⟨D, 5, none⟩ = some (.int .u64 (lm cP 1 : Nat)) ∧ w9.cell? ⟨D, 6, none⟩ = some (.int .u64 (lm cP 2 : Nat)) ∧ w9.cell? ⟨D, 7, none⟩ = some (.int .u64 (lm cP 3 : Nat)))
      (first | with_reducible exact ⟨m0, m1, m2, m3, c0, c1, c2, c3⟩ | with_reducible exact ⟨cell_put4 m0 (Nat.ne_of_lt (Nat.lt_of_lt_of_le hlt0 HGE.out)), cell_put4 m1 (Nat.ne_of_lt (Nat.lt_of_lt_of_le hlt0 HGE.out)), cell_put4 m2 (Nat.ne_of_lt (Nat.lt_of_lt_of_le hlt0 HGE.out)), cell_put4 m3 (Nat.ne_of_lt (Nat.lt_of_lt_of_le hlt0 HGE.out)), cell_put4 c0 (Nat.ne_of_lt (Nat.lt_of_lt_of_le hlt0 HGE.out)), cell_put4 c1 (Nat.ne_of_lt (Nat.lt_of_lt_of_le hlt0 HGE.out)), cell_put4 c2 (Nat.ne_of_lt (Nat.lt_of_lt_of_le hlt0 HGE.out)), cell_put4 c3 (Nat.ne_of_lt (Nat.lt_of_lt_of_le hlt0 HGE.out))⟩ | go_keep)
      (first | (go_at_call 63; go_loud (refine (HDc.out _).mono ?_; rintro e w3 ⟨rfl, hC3⟩; have hC4 := Chg.trans (S := []) (a := W1) (by repeat (with_reducible first | exact HC4.out | apply Chg.drew | apply Chg.drewN | apply Chg.alloc)) hC3; (first | (with_reducible have hN3 := HN3.out.chg hC3 nmN; clear HN3; obtain ⟨n0, n1, n2, n3⟩ := four4 fun _ => (hN3).cell; have nz0 := (hN3).fz 0; have nz1 := (hN3).fz 1; have nz2 := (hN3).fz 2; have nz3 := (hN3).fz 3; have HN3 := Lib.hid hN3; clear hN3) | (with_reducible (first | have hN3 := U4.kept hC3 | have hN3 := U4.kept1 hC3 | have hN3 := U4.kept2 hC3); have HGE := Lib.hid (HC4.out.size); obtain ⟨n0, n1, n2, n3⟩ := four4 fun _ => (hN3).cell; have nz0 := (hN3).fz 0; have nz1 := (hN3).fz 1; have nz2 := (hN3).fz 2; have nz3 := (hN3).fz 3; have HN3 := Lib.hid hN3; clear hN3) | skip); have hsz := hC4.size; replace m0 := hC4.cell H9m0.out nmN; replace m1 := hC4.cell H9m1.out nmN; replace m2 := hC4.cell H9m2.out nmN; replace m3 := hC4.cell H9m3.out nmN; replace c0 := hC4.cell H9c0.out nmN; replace c1 := hC4.cell H9c1.out nmN; replace c2 := hC4.cell H9c2.out nmN; replace c3 := hC4.cell H9c3.out nmN; clear HC4 hC3; have HC4 := Lib.hid hC4; clear hC4)))
    all_goals (go_wp2_with fail; go_meet)
    all_goals (first | with_reducible exact ⟨_, rfl, rfl, U4.new _ _ _, HC4.out.alloc _, HC4.out.size⟩ | with_reducible exact ⟨_, rfl, rfl, U4.put_x HN3.out _, HC4.out.put_x (Or.inr HGE.out) _, HGE.out⟩)
  case rest =>
    obtain ⟨X, rfl, rfl, hN, hC1, hXge⟩ := hcut
    replace HR := Lib.hid (HR.out.chg hC1 nmN); replace HC := Lib.hid (HC.out.trans hC1); replace HD := Lib.hid (HD.out.chg hC1 nmN)
    have HBX := Lib.hid hN
    clear hC1 hN hXge m0 m1 m2 m3 c0 c1 c2 c3
    go_upto_region 14 with fail
    obtain ⟨D0, D1, D2, D3⟩ := four4 fun _ => (HD.out).cm; obtain ⟨D4, D5, D6, D7⟩ := four4 fun _ => (HD.out).cc
    obtain ⟨x0, x1, x2, x3⟩ := four4 fun _ => HBX.out.cell
    refine abs_region (B := Chg [] wc) (S := Chg [] wc) (by kernel_rfl) ((Chg.refl _ _).drew) ?_
    have hG := good_chg [] wc
    refine Abs.take_np (i := 0) (d := some 54) (v := ?_) rfl rfl (by kernel_rfl) (by kernel_rfl) (by kernel_rfl) hG ⟨by rfl, fun w9 hw9 => Or.inl ?_⟩ ?_
    rotate_left
    · replace D0 := hw9.cell D0 nmN; replace D1 := hw9.cell D1 nmN; replace D2 := hw9.cell D2 nmN; replace D3 := hw9.cell D3 nmN; replace D4 := hw9.cell D4 nmN; replace D5 := hw9.cell D5 nmN; replace D6 := hw9.cell D6 nmN; replace D7 := hw9.cell D7 nmN
      go_simp
      try with_reducible rfl
    simp only [Act.put, stA, stB, stC]
    refine Abs.take_np (i := 1) (d := some 55) (v := ?_) rfl rfl (by kernel_rfl) (by kernel_rfl) (by kernel_rfl) hG ⟨by rfl, fun w9 hw9 => Or.inl ?_⟩ ?_
    rotate_left
    · replace x0 := hw9.cell x0 nmN; replace x1 := hw9.cell x1 nmN; replace x2 := hw9.cell x2 nmN; replace x3 := hw9.cell x3 nmN
      go_simp
      try with_reducible rfl
    simp only [Act.put, stA, stB, stC]
    refine Abs.take_np (i := 2) (d := some 56) (v := _) rfl rfl (by kernel_rfl) (by kernel_rfl) (by kernel_rfl) hG ⟨by rfl, fun w9 hw9 => Or.inr ⟨_, _, ?_, HCb.out w9⟩⟩ ?_
    · go_simp
      try with_reducible rfl
    simp only [Act.put, stA, stB, stC]
    refine Abs.take_np (i := 3) (d := some 57) (v := _) rfl rfl (by kernel_rfl) (by kernel_rfl) (by kernel_rfl) hG ⟨by rfl, fun w9 hw9 => Or.inr ⟨_, _, ?_, HSq.out w9⟩⟩ ?_
    · go_simp
      try with_reducible rfl
    simp only [Act.put, stA, stB, stC]
    refine Abs.take_np (i := 4) (d := some 53) (v := ?_) rfl rfl (by kernel_rfl) (by kernel_rfl) (by kernel_rfl) hG ⟨by rfl, fun w9 hw9 => Or.inl ?_⟩ ?_
    rotate_left
    · go_simp
      try with_reducible rfl
    simp only [Act.put, stA, stB, stC]
    refine Abs.take_np (i := 5) (d := some 58) (v := ?_) rfl rfl (by kernel_rfl) (by kernel_rfl) (by kernel_rfl) hG ⟨by rfl, fun w9 hw9 => Or.inl ?_⟩ ?_
    rotate_left
    · go_simp
      try with_reducible rfl
    simp only [Act.put, stA, stB, stC]
    refine Abs.take_np (i := 6) (d := some 59) (v := ?_) rfl rfl (by kernel_rfl) (by kernel_rfl) (by kernel_rfl) hG ⟨by rfl, fun w9 hw9 => Or.inl ?_⟩ ?_
    rotate_left
    · go_simp
      try with_reducible rfl
    simp only [Act.put, stA, stB, stC]
    refine Abs.alloc4 (i := 7) (t := 24) (X := []) (W := wc) rfl (by kernel_rfl) (by rfl) hG (fun _ h => h) (fun w9 => ?_) (fun Y hY hG => ?_)
    · go_simp
      try with_reducible rfl
    refine Abs.at_put (d := some 8) rfl ?_
    simp only [Act.put, stA, stB, stC]
    refine Abs.store4 (i := 8) (b := Y) (ds := #[.int .u64 (lm yv 0 : Nat), .int .u64 (lm yv 1 : Nat), .int .u64 (lm yv 2 : Nat), .int .u64 (lm yv 3 : Nat)]) rfl (by kernel_rfl) (by rfl) (fun w9 => (((w9.setCell ⟨Y, 0, none⟩ (.int .u64 (lm yv 0 : Nat))).setCell ⟨Y, 1, none⟩ (.int .u64 (lm yv 1 : Nat))).setCell ⟨Y, 2, none⟩ (.int .u64 (lm yv 2 : Nat))).setCell ⟨Y, 3, none⟩ (.int .u64 (lm yv 3 : Nat))) (fun w9 h9 => ⟨?_, ?_, ?_⟩) (fun _ _ h k => Chg.keeps (Or.inr hY) h k) (good_chg [] wc) (fun hG => ?_)
    · have n0 := cell_of_has h9 0; have n1 := cell_of_has h9 1; have n2 := cell_of_has h9 2; have n3 := cell_of_has h9 3
      simp only [glA, glB, glC] at n0 n1 n2 n3
      have z0 := frozen_of_has h9 0; have z1 := frozen_of_has h9 1; have z2 := frozen_of_has h9 2; have z3 := frozen_of_has h9 3
      clear h9
      go_simp
      try with_reducible rfl
    · exact U4.put_x (x := fun _ => 0) h9 yv
    · exact Chg.put_x (Chg.refl _ _) (Or.inl (by simp)) yv
    refine Abs.at_put (d := none) rfl ?_
    simp only [Act.put, stA, stB, stC]
    refine Abs.take_np (i := 9) (d := some 9) (v := ?_) rfl rfl (by kernel_rfl) (by kernel_rfl) (by kernel_rfl) hG ⟨by rfl, fun w9 hw9 => Or.inl ?_⟩ ?_
    rotate_left
    · go_simp
      try with_reducible rfl
    simp only [Act.put, stA, stB, stC]
    refine Abs.done (by kernel_rfl) (fun wx hx => NoPanic.normal ?_) _
    obtain ⟨hC1, hN0⟩ := hx
    have hN : U4 wx Y 24 (lm yv) := hN0
    have HwY := Lib.hid (show w.heap.size ≤ Y ∧ R < Y ∧ X < Y from ⟨Nat.le_trans HC.out.size hY, Nat.lt_of_lt_of_le HR.out.lt hY, Nat.lt_of_lt_of_le HBX.out.lt hY⟩)
    replace HR := Lib.hid (HR.out.chg hC1 nmN); replace HC := Lib.hid (HC.out.trans hC1); replace HD := Lib.hid (HD.out.chg hC1 nmN); replace HBX := Lib.hid (HBX.out.chg hC1 nmN)
    have HBY := Lib.hid hN
    clear hC1 hN hN0 hY hG D0 D1 D2 D3 D4 D5 D6 D7 x0 x1 x2 x3
    go_upto_region 16 with fail
    obtain ⟨n0, n1, n2, n3, n4, n5, n6, n7, n8⟩ := HR.out.all
    simp only [lm_zero'] at n0 n1 n2 n3 n4 n5 n6 n7
    obtain ⟨nz0, nz1, nz2, nz3, nz4, nz5, nz6, nz7, nz8⟩ := HR.out.fzs'
    have hll := HR.out.lt
    have HF := Lib.hid (HR.out.put 0 0 false); have HCF := Lib.hid (HC.out.put9 (b := R) (Or.inr HwR.out) 0 0 false)
    go_wp2_with fail
    have hF := HF.out; have hCF := HCF.out
    refine (id ?_ : bodyPost _ _ _ _ _ (put9 wx R 0 0 false))
    clear HF HCF
    generalize put9 wx R 0 0 false = W5 at *
    obtain ⟨g0, g1, g2, g3, g4, g5, g6, g7, g8⟩ := hF.all
    simp only [lm_zero'] at g0 g1 g2 g3 g4 g5 g6 g7
    exact bodyPost_ret (v := .tuple #[.agg #[.int .u64 0, .int .u64 0, .int .u64 0, .int .u64 0, .int .u64 0, .int .u64 0, .int .u64 0, .int .u64 0, .bool false], .int .i64 30]) (by simp [results, Try.results30, go_sem, g0, g1, g2, g3, g4, g5, g6, g7, g8]) rfl ⟨rfl, hCF⟩

set_option maxRecDepth 100000 in
set_option maxHeartbeats 8000000 in
theorem ref_dec_ok3 {l : List UInt8} (hl : l.length = 33) (hc : sb l 0 = 3) {x : Fin PP} (hn : nb (l.drop 1) = x.val) (hr : ((cub x).val ^ rootP % PP) * ((cub x).val ^ rootP % PP) % PP = (cub x).val) (w : World) :
    Calls Try.prog 30 #[.string ⟨l.toArray⟩] w fun e w' => e = .returned (.tuple #[.agg #[.int .u64 (lm x.val 0 : Nat), .int .u64 (lm x.val 1 : Nat), .int .u64 (lm x.val 2 : Nat), .int .u64 (lm x.val 3 : Nat), .int .u64 (lm ((0 + PP - evR PP ((cub x).val ^ rootP % PP)) % PP) 0 : Nat), .int .u64 (lm ((0 + PP - evR PP ((cub x).val ^ rootP % PP)) % PP) 1 : Nat), .int .u64 (lm ((0 + PP - evR PP ((cub x).val ^ rootP % PP)) % PP) 2 : Nat), .int .u64 (lm ((0 + PP - evR PP ((cub x).val ^ rootP % PP)) % PP) 3 : Nat), .bool false], .int .i64 0]) ∧ Chg [] w w' := by
  have hix := fun w => index_sb (l := l) (j := 0) (by omega) w
  have hl1 : (l.drop 1).length = 32 := by rw [List.length_drop]; omega
  have hext := drop_str hl
  have hbs := ref_base
  unfold dcCells at hbs
  have HBs := Lib.hid hbs
  clear hbs
  have hdc := fun w => ref_decode_ok (c := cP) hl1 way_P.lt (by rw [hn]; exact x.isLt) w
  rw [hn] at hdc
  have hcb := fun w => ref_cubic (x := x) rfl rfl w
  have hsq := fun w => sqrt_all (cub x).isLt hr w
  obtain ⟨xv, hxv⟩ : ∃ v, x.val = v := ⟨_, rfl⟩
  obtain ⟨cv, hcv⟩ : ∃ v, (cub x).val = v := ⟨_, rfl⟩
  have hyl : evR PP ((cub x).val ^ rootP % PP) < PP := evR_lt (Nat.mod_lt _ (by decide))
  obtain ⟨yv, hyv⟩ : ∃ v, evR PP ((cub x).val ^ rootP % PP) = v := ⟨_, rfl⟩
  rw [hyv] at hsq hyl ⊢
  have hng := fun w => ref_sub (c := cP) (x := 0) (y := yv) way_P.lt (by decide) hyl w
  simp only [lm_zero'] at hng
  obtain ⟨ny, hny⟩ : ∃ v, (0 + PP - yv) % PP = v := ⟨_, rfl⟩
  rw [hny] at hng ⊢
  unfold dcCells at hng
  have HNg := Lib.hid hng
  clear hng hny
  rw [hxv] at hdc hcb ⊢
  rw [hcv] at hcb hsq
  unfold dcCells at hsq
  have HCb := Lib.hid hcb; have HSq := Lib.hid hsq
  clear hcb hsq hcv hr hyv hyl
  unfold dcCells at hdc
  obtain ⟨s, hs⟩ : ∃ s : ByteArray, ⟨l.toArray⟩ = s := ⟨_, rfl⟩
  obtain ⟨s1, hs1⟩ : ∃ s : ByteArray, ⟨(l.drop 1).toArray⟩ = s := ⟨_, rfl⟩
  have hsz := size_str hs
  rw [hl] at hsz
  rw [hc] at hix
  rw [hs] at hix hext ⊢
  rw [hs1] at hext hdc
  have HDc := Lib.hid hdc
  replace hix : ∀ w, (Instr.index 9 (.string s) (.int .i64 0)).run Try.prog w = .ok (.int .u8 3) w := hix
  clear hs hs1 hl hl1 hc hdc hxv hn
  obtain ⟨W0, hW0⟩ : ∃ W0, w.alloc (.cells #[.int .u64 0, .int .u64 0, .int .u64 0, .int .u64 0, .int .u64 0, .int .u64 0, .int .u64 0, .int .u64 0, .bool false] 26) = W0 := ⟨_, rfl⟩
  obtain ⟨R, hR⟩ : ∃ R, w.heap.size = R := ⟨_, rfl⟩
  have HR := Lib.hid (show U9 W0 R 0 0 false from U9.zero (by rw [← hW0, ← hR]; exact has_alloc_new _ _))
  have HC := Lib.hid (show Chg [] w W0 by rw [← hW0]; exact (Chg.refl _ _).alloc _)
  have HwR := Lib.hid (Nat.le_of_eq hR)
  go_enter Try.func30, Try.ntmps30
  go_upto_region 1 with fail
  try rw [hW0]
  try rw [hR]
  clear hW0 hR
  go_wp2_with fail
  refine (HBs.out _).mono ?_
  rintro e w1 ⟨rfl, hC1⟩
  obtain ⟨W1, hW1⟩ : ∃ W1, w1.alloc (.cells #[.int .u64 (lm PP 0 : Nat), .int .u64 (lm PP 1 : Nat), .int .u64 (lm PP 2 : Nat), .int .u64 (lm PP 3 : Nat), .int .u64 (lm cP 0 : Nat), .int .u64 (lm cP 1 : Nat), .int .u64 (lm cP 2 : Nat), .int .u64 (lm cP 3 : Nat)] 76) = W1 := ⟨_, rfl⟩
  have hA : Chg [] w1 W1 := by rw [← hW1]; exact (Chg.refl _ _).alloc _
  obtain ⟨D, hb⟩ : ∃ b, w1.heap.size = b := ⟨_, rfl⟩
  have HD := Lib.hid (show UD W1 D PP cP by rw [← hb, ← hW1]; exact has_alloc_new _ _)
  replace HR := Lib.hid (HR.out.chg (hC1.trans hA) nmN); replace HC := Lib.hid (HC.out.trans (hC1.trans hA))
  have HW1 := Lib.hid hW1; have Hb := Lib.hid hb
  clear hC1 hA hW1 hb HBs
  go_upto_region 11 with fail
  try rw [HW1.out]
  try rw [Hb.out]
  clear HW1 Hb
  obtain ⟨m0, m1, m2, m3⟩ := four4 fun _ => HD.out.cm
  obtain ⟨c0, c1, c2, c3⟩ := four4 fun k hk => HD.out.cc (k := k) hk
  go_upto_region 11 with fail
  go_cut [6, 7] from 43 to 49 (fun cv lv wx => ∃ cb, cv = .pointer (some ⟨cb, 0, none⟩) ∧ lv = .int .i64 0 ∧ U4 wx cb 24 (lm (xv)) ∧ Chg [] W1 wx ∧ W1.heap.size ≤ cb)
  case first =>
    have hlt0 : D < W1.heap.size := World.block_lt_of_cell? _ _ m0
    have HC4 := Lib.hid (Chg.refl [] W1)
    have H9m0 := Lib.hid m0; have H9m1 := Lib.hid m1; have H9m2 := Lib.hid m2; have H9m3 := Lib.hid m3; have H9c0 := Lib.hid c0; have H9c1 := Lib.hid c1; have H9c2 := Lib.hid c2; have H9c3 := Lib.hid c3
    go_region_held3 (fun w9 => w9.cell? ⟨D, 0, none⟩ = some (.int .u64 (lm PP 0 : Nat)) ∧ w9.cell? ⟨D, 1, none⟩ = some (.int .u64 (lm PP 1 : Nat)) ∧ w9.cell? ⟨D, 2, none⟩ = some (.int .u64 (lm PP 2 : Nat)) ∧ w9.cell? ⟨D, 3, none⟩ = some (.int .u64 (lm PP 3 : Nat)) ∧ w9.cell? ⟨D, 4, none⟩ = some (.int .u64 (lm cP 0 : Nat)) ∧ w9.cell? ⟨D, 5, none⟩ = some (.int .u64 (lm cP 1 : Nat)) ∧ w9.cell? ⟨D, 6, none⟩ = some (.int .u64 (lm cP 2 : Nat)) ∧ w9.cell? ⟨D, 7, none⟩ = some (.int .u64 (lm cP 3 : Nat)))
      (first | with_reducible exact ⟨m0, m1, m2, m3, c0, c1, c2, c3⟩ | with_reducible exact ⟨cell_put4 m0 (Nat.ne_of_lt (Nat.lt_of_lt_of_le hlt0 HGE.out)), cell_put4 m1 (Nat.ne_of_lt (Nat.lt_of_lt_of_le hlt0 HGE.out)), cell_put4 m2 (Nat.ne_of_lt (Nat.lt_of_lt_of_le hlt0 HGE.out)), cell_put4 m3 (Nat.ne_of_lt (Nat.lt_of_lt_of_le hlt0 HGE.out)), cell_put4 c0 (Nat.ne_of_lt (Nat.lt_of_lt_of_le hlt0 HGE.out)), cell_put4 c1 (Nat.ne_of_lt (Nat.lt_of_lt_of_le hlt0 HGE.out)), cell_put4 c2 (Nat.ne_of_lt (Nat.lt_of_lt_of_le hlt0 HGE.out)), cell_put4 c3 (Nat.ne_of_lt (Nat.lt_of_lt_of_le hlt0 HGE.out))⟩ | go_keep)
      (first | (go_at_call 63; go_loud (refine (HDc.out _).mono ?_; rintro e w3 ⟨rfl, hC3⟩; have hC4 := Chg.trans (S := []) (a := W1) (by repeat (with_reducible first | exact HC4.out | apply Chg.drew | apply Chg.drewN | apply Chg.alloc)) hC3; (first | (with_reducible have hN3 := HN3.out.chg hC3 nmN; clear HN3; obtain ⟨n0, n1, n2, n3⟩ := four4 fun _ => (hN3).cell; have nz0 := (hN3).fz 0; have nz1 := (hN3).fz 1; have nz2 := (hN3).fz 2; have nz3 := (hN3).fz 3; have HN3 := Lib.hid hN3; clear hN3) | (with_reducible (first | have hN3 := U4.kept hC3 | have hN3 := U4.kept1 hC3 | have hN3 := U4.kept2 hC3); have HGE := Lib.hid (HC4.out.size); obtain ⟨n0, n1, n2, n3⟩ := four4 fun _ => (hN3).cell; have nz0 := (hN3).fz 0; have nz1 := (hN3).fz 1; have nz2 := (hN3).fz 2; have nz3 := (hN3).fz 3; have HN3 := Lib.hid hN3; clear hN3) | skip); have hsz := hC4.size; replace m0 := hC4.cell H9m0.out nmN; replace m1 := hC4.cell H9m1.out nmN; replace m2 := hC4.cell H9m2.out nmN; replace m3 := hC4.cell H9m3.out nmN; replace c0 := hC4.cell H9c0.out nmN; replace c1 := hC4.cell H9c1.out nmN; replace c2 := hC4.cell H9c2.out nmN; replace c3 := hC4.cell H9c3.out nmN; clear HC4 hC3; have HC4 := Lib.hid hC4; clear hC4)))
    all_goals (go_wp2_with fail; go_meet)
    all_goals (first | with_reducible exact ⟨_, rfl, rfl, U4.new _ _ _, HC4.out.alloc _, HC4.out.size⟩ | with_reducible exact ⟨_, rfl, rfl, U4.put_x HN3.out _, HC4.out.put_x (Or.inr HGE.out) _, HGE.out⟩)
  case rest =>
    obtain ⟨X, rfl, rfl, hN, hC1, hXge⟩ := hcut
    replace HR := Lib.hid (HR.out.chg hC1 nmN); replace HC := Lib.hid (HC.out.trans hC1); replace HD := Lib.hid (HD.out.chg hC1 nmN)
    have HBX := Lib.hid hN
    clear hC1 hN hXge m0 m1 m2 m3 c0 c1 c2 c3
    go_upto_region 14 with fail
    obtain ⟨D0, D1, D2, D3⟩ := four4 fun _ => (HD.out).cm; obtain ⟨D4, D5, D6, D7⟩ := four4 fun _ => (HD.out).cc
    obtain ⟨x0, x1, x2, x3⟩ := four4 fun _ => HBX.out.cell
    refine abs_region (B := Chg [] wc) (S := Chg [] wc) (by kernel_rfl) ((Chg.refl _ _).drew) ?_
    have hG := good_chg [] wc
    refine Abs.take_np (i := 0) (d := some 54) (v := ?_) rfl rfl (by kernel_rfl) (by kernel_rfl) (by kernel_rfl) hG ⟨by rfl, fun w9 hw9 => Or.inl ?_⟩ ?_
    rotate_left
    · replace D0 := hw9.cell D0 nmN; replace D1 := hw9.cell D1 nmN; replace D2 := hw9.cell D2 nmN; replace D3 := hw9.cell D3 nmN; replace D4 := hw9.cell D4 nmN; replace D5 := hw9.cell D5 nmN; replace D6 := hw9.cell D6 nmN; replace D7 := hw9.cell D7 nmN
      go_simp
      try with_reducible rfl
    simp only [Act.put, stA, stB, stC]
    refine Abs.take_np (i := 1) (d := some 55) (v := ?_) rfl rfl (by kernel_rfl) (by kernel_rfl) (by kernel_rfl) hG ⟨by rfl, fun w9 hw9 => Or.inl ?_⟩ ?_
    rotate_left
    · replace x0 := hw9.cell x0 nmN; replace x1 := hw9.cell x1 nmN; replace x2 := hw9.cell x2 nmN; replace x3 := hw9.cell x3 nmN
      go_simp
      try with_reducible rfl
    simp only [Act.put, stA, stB, stC]
    refine Abs.take_np (i := 2) (d := some 56) (v := _) rfl rfl (by kernel_rfl) (by kernel_rfl) (by kernel_rfl) hG ⟨by rfl, fun w9 hw9 => Or.inr ⟨_, _, ?_, HCb.out w9⟩⟩ ?_
    · go_simp
      try with_reducible rfl
    simp only [Act.put, stA, stB, stC]
    refine Abs.take_np (i := 3) (d := some 57) (v := _) rfl rfl (by kernel_rfl) (by kernel_rfl) (by kernel_rfl) hG ⟨by rfl, fun w9 hw9 => Or.inr ⟨_, _, ?_, HSq.out w9⟩⟩ ?_
    · go_simp
      try with_reducible rfl
    simp only [Act.put, stA, stB, stC]
    refine Abs.take_np (i := 4) (d := some 53) (v := ?_) rfl rfl (by kernel_rfl) (by kernel_rfl) (by kernel_rfl) hG ⟨by rfl, fun w9 hw9 => Or.inl ?_⟩ ?_
    rotate_left
    · go_simp
      try with_reducible rfl
    simp only [Act.put, stA, stB, stC]
    refine Abs.take_np (i := 5) (d := some 58) (v := ?_) rfl rfl (by kernel_rfl) (by kernel_rfl) (by kernel_rfl) hG ⟨by rfl, fun w9 hw9 => Or.inl ?_⟩ ?_
    rotate_left
    · go_simp
      try with_reducible rfl
    simp only [Act.put, stA, stB, stC]
    refine Abs.take_np (i := 6) (d := some 59) (v := ?_) rfl rfl (by kernel_rfl) (by kernel_rfl) (by kernel_rfl) hG ⟨by rfl, fun w9 hw9 => Or.inl ?_⟩ ?_
    rotate_left
    · go_simp
      try with_reducible rfl
    simp only [Act.put, stA, stB, stC]
    refine Abs.alloc4 (i := 7) (t := 24) (X := []) (W := wc) rfl (by kernel_rfl) (by rfl) hG (fun _ h => h) (fun w9 => ?_) (fun Y hY hG => ?_)
    · go_simp
      try with_reducible rfl
    refine Abs.at_put (d := some 8) rfl ?_
    simp only [Act.put, stA, stB, stC]
    refine Abs.store4 (i := 8) (b := Y) (ds := #[.int .u64 (lm yv 0 : Nat), .int .u64 (lm yv 1 : Nat), .int .u64 (lm yv 2 : Nat), .int .u64 (lm yv 3 : Nat)]) rfl (by kernel_rfl) (by rfl) (fun w9 => (((w9.setCell ⟨Y, 0, none⟩ (.int .u64 (lm yv 0 : Nat))).setCell ⟨Y, 1, none⟩ (.int .u64 (lm yv 1 : Nat))).setCell ⟨Y, 2, none⟩ (.int .u64 (lm yv 2 : Nat))).setCell ⟨Y, 3, none⟩ (.int .u64 (lm yv 3 : Nat))) (fun w9 h9 => ⟨?_, ?_, ?_⟩) (fun _ _ h k => Chg.keeps (Or.inr hY) h k) (good_chg [] wc) (fun hG => ?_)
    · have n0 := cell_of_has h9 0; have n1 := cell_of_has h9 1; have n2 := cell_of_has h9 2; have n3 := cell_of_has h9 3
      simp only [glA, glB, glC] at n0 n1 n2 n3
      have z0 := frozen_of_has h9 0; have z1 := frozen_of_has h9 1; have z2 := frozen_of_has h9 2; have z3 := frozen_of_has h9 3
      clear h9
      go_simp
      try with_reducible rfl
    · exact U4.put_x (x := fun _ => 0) h9 yv
    · exact Chg.put_x (Chg.refl _ _) (Or.inl (by simp)) yv
    refine Abs.at_put (d := none) rfl ?_
    simp only [Act.put, stA, stB, stC]
    refine Abs.take_np (i := 9) (d := some 9) (v := ?_) rfl rfl (by kernel_rfl) (by kernel_rfl) (by kernel_rfl) hG ⟨by rfl, fun w9 hw9 => Or.inl ?_⟩ ?_
    rotate_left
    · go_simp
      try with_reducible rfl
    simp only [Act.put, stA, stB, stC]
    refine Abs.done (by kernel_rfl) (fun wx hx => NoPanic.normal ?_) _
    obtain ⟨hC1, hN0⟩ := hx
    have hN : U4 wx Y 24 (lm yv) := hN0
    have HwY := Lib.hid (show w.heap.size ≤ Y ∧ R < Y ∧ X < Y from ⟨Nat.le_trans HC.out.size hY, Nat.lt_of_lt_of_le HR.out.lt hY, Nat.lt_of_lt_of_le HBX.out.lt hY⟩)
    replace HR := Lib.hid (HR.out.chg hC1 nmN); replace HC := Lib.hid (HC.out.trans hC1); replace HD := Lib.hid (HD.out.chg hC1 nmN); replace HBX := Lib.hid (HBX.out.chg hC1 nmN)
    have HBY := Lib.hid hN
    clear hC1 hN hN0 hY hG D0 D1 D2 D3 D4 D5 D6 D7 x0 x1 x2 x3
    go_upto_region 18 with fail
    obtain ⟨D0, D1, D2, D3⟩ := four4 fun _ => (HD.out).cm; obtain ⟨D4, D5, D6, D7⟩ := four4 fun _ => (HD.out).cc
    obtain ⟨y0, y1, y2, y3⟩ := four4 fun _ => HBY.out.cell
    go_wp2_with fail
    refine (HNg.out _).mono ?_
    rintro e w6 ⟨rfl, hC1⟩
    replace HR := Lib.hid (HR.out.chg hC1 nmN); replace HC := Lib.hid (HC.out.trans hC1); replace HBX := Lib.hid (HBX.out.chg hC1 nmN); replace HBY := Lib.hid (HBY.out.chg hC1 nmN)
    clear hC1 y0 y1 y2 y3 D0 D1 D2 D3 D4 D5 D6 D7
    have q0 := HBY.out.cell (k := 0) (by omega); have qz0 := HBY.out.fz 0; have q1 := HBY.out.cell (k := 1) (by omega); have qz1 := HBY.out.fz 1; have q2 := HBY.out.cell (k := 2) (by omega); have qz2 := HBY.out.fz 2; have q3 := HBY.out.cell (k := 3) (by omega); have qz3 := HBY.out.fz 3
    have hll := HBY.out.lt
    have hP := (Chg.refl [Y] w6).put4 (b := Y) (Or.inl (by simp)) (lm ny)
    have HBY2 := Lib.hid (HBY.out.put (lm ny))
    have HC2 := Lib.hid (HC.out.put4 (b := Y) (Or.inr HwY.out.1) (lm ny))
    have HR2 := Lib.hid (HR.out.chg hP (by have := HwY.out; simp; omega))
    have HBX2 := Lib.hid (HBX.out.chg hP (by have := HwY.out; simp; omega))
    clear hP
    go_upto_region 19 with fail
    refine (id ?_ : Code.wp _ _ _ _ (put4 w6 Y (lm ny)))
    clear q0 q1 q2 q3 qz0 qz1 qz2 qz3 hll HBY HC HR HBX HD
    have HBY := HBY2; have HC := HC2; have HR := HR2; have HBX := HBX2
    clear HBY2 HC2 HR2 HBX2
    generalize put4 w6 Y (lm ny) = w7 at *
    obtain ⟨x0, x1, x2, x3⟩ := four4 fun _ => HBX.out.cell
    obtain ⟨y0, y1, y2, y3⟩ := four4 fun _ => HBY.out.cell
    obtain ⟨n0, n1, n2, n3, n4, n5, n6, n7, n8⟩ := HR.out.all
    simp only [lm_zero'] at n0 n1 n2 n3 n4 n5 n6 n7
    obtain ⟨nz0, nz1, nz2, nz3, nz4, nz5, nz6, nz7, nz8⟩ := HR.out.fzs'
    have hll := HR.out.lt
    have HF9 := Lib.hid (HR.out.put xv ny false); have HCF := Lib.hid (HC.out.put9 (b := R) (Or.inr HwR.out) xv ny false)
    go_wp2_with fail
    have hF := HF9.out; have hCF := HCF.out
    refine (id ?_ : bodyPost _ _ _ _ _ (put9 w7 R xv ny false))
    clear HF9 HCF
    generalize put9 w7 R xv ny false = W5 at *
    obtain ⟨g0, g1, g2, g3, g4, g5, g6, g7, g8⟩ := hF.all
    exact bodyPost_ret (v := .tuple #[.agg #[.int .u64 (lm xv 0 : Nat), .int .u64 (lm xv 1 : Nat), .int .u64 (lm xv 2 : Nat), .int .u64 (lm xv 3 : Nat), .int .u64 (lm ny 0 : Nat), .int .u64 (lm ny 1 : Nat), .int .u64 (lm ny 2 : Nat), .int .u64 (lm ny 3 : Nat), .bool false], .int .i64 0]) (by simp [results, Try.results30, go_sem, g0, g1, g2, g3, g4, g5, g6, g7, g8]) rfl ⟨rfl, hCF⟩

end Go.Proofs.Ytplldbmjdnikeaa
