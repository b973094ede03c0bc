/- The walk of curve.Decode. Printed by decc.py. -/
import Derived.Test.YtplldbmjdnikeaaDecF
import Derived.Test.YtplldbmjdnikeaaEncC
import Derived.Test.YtplldbmjdnikeaaSqrtB
namespace Go.Proofs.Ytplldbmjdnikeaa
set_option linter.unusedVariables false
set_option linter.unusedSimpArgs false
open Go.RowKit

theorem lm_zero' (k : Nat) : ((lm 0 k : Nat) : Int) = 0 := by rw [lm_zero]; rfl
theorem U9.fzs' {w : World} {b x y : Nat} {i : Bool} (h : U9 w b x y i) : w.frozen? ⟨b, 0, none⟩ = false ∧ w.frozen? ⟨b, 1, none⟩ = false ∧ w.frozen? ⟨b, 2, none⟩ = false ∧ w.frozen? ⟨b, 3, none⟩ = false ∧ w.frozen? ⟨b, 4, none⟩ = false ∧ w.frozen? ⟨b, 5, none⟩ = false ∧ w.frozen? ⟨b, 6, none⟩ = false ∧ w.frozen? ⟨b, 7, none⟩ = false ∧ w.frozen? ⟨b, 8, none⟩ = false := ⟨h.fz 0, h.fz 1, h.fz 2, h.fz 3, h.fz 4, h.fz 5, h.fz 6, h.fz 7, h.fz 8⟩
theorem size_str {l : List UInt8} {s : ByteArray} (h : ⟨l.toArray⟩ = s) : s.size = l.length := by rw [← h]; simp [ByteArray.size_mk']

set_option maxRecDepth 100000 in
set_option maxHeartbeats 8000000 in
theorem dec_len {l : List UInt8} (hl : l.length ≠ 33) (w : World) :
    Calls Try.prog 29 #[.string ⟨l.toArray⟩] w fun e w' => e = .returned (.tuple #[.agg #[.int .u64 0, .int .u64 0, .int .u64 0, .int .u64 0, .int .u64 0, .int .u64 0, .int .u64 0, .int .u64 0, .bool false], .int .i64 4]) ∧ Chg [] w w' := by
  obtain ⟨s, hs⟩ : ∃ s : ByteArray, ⟨l.toArray⟩ = s := ⟨_, rfl⟩
  have hsz := size_str hs
  obtain ⟨n, hn⟩ : ∃ n, l.length = n := ⟨_, rfl⟩
  rw [hn] at hsz hl
  have t1 : ((n : Int) != 33) = true := by simp; omega
  rw [hs]
  clear hs hn hl
  obtain ⟨W0, hW0⟩ : ∃ W0, w.alloc (.cells #[.int .u64 0, .int .u64 0, .int .u64 0, .int .u64 0, .int .u64 0, .int .u64 0, .int .u64 0, .int .u64 0, .bool false] 26) = W0 := ⟨_, rfl⟩
  obtain ⟨R, hR⟩ : ∃ R, w.heap.size = R := ⟨_, rfl⟩
  have HR := Lib.hid (show U9 W0 R 0 0 false from U9.zero (by rw [← hW0, ← hR]; exact has_alloc_new _ _))
  have HC := Lib.hid (show Chg [] w W0 by rw [← hW0]; exact (Chg.refl _ _).alloc _)
  have HwR := Lib.hid (Nat.le_of_eq hR)
  go_enter Try.func29, Try.ntmps29
  go_upto_region 1 with fail
  try rw [hW0]
  try rw [hR]
  clear hW0 hR
  go_upto_region 2 with fail
  obtain ⟨n0, n1, n2, n3, n4, n5, n6, n7, n8⟩ := HR.out.all
  simp only [lm_zero'] at n0 n1 n2 n3 n4 n5 n6 n7
  obtain ⟨nz0, nz1, nz2, nz3, nz4, nz5, nz6, nz7, nz8⟩ := HR.out.fzs'
  have hll := HR.out.lt
  have HF := Lib.hid (HR.out.put 0 0 false); have HCF := Lib.hid (HC.out.put9 (b := R) (Or.inr HwR.out) 0 0 false)
  go_wp2_with fail
  have hF := HF.out; have hCF := HCF.out
  refine (id ?_ : bodyPost _ _ _ _ _ (put9 W0 R 0 0 false))
  clear HF HCF
  generalize put9 W0 R 0 0 false = W5 at *
  obtain ⟨g0, g1, g2, g3, g4, g5, g6, g7, g8⟩ := hF.all
  simp only [lm_zero'] at g0 g1 g2 g3 g4 g5 g6 g7
  exact bodyPost_ret (v := .tuple #[.agg #[.int .u64 0, .int .u64 0, .int .u64 0, .int .u64 0, .int .u64 0, .int .u64 0, .int .u64 0, .int .u64 0, .bool false], .int .i64 4]) (by simp [results, Try.results29, go_sem, g0, g1, g2, g3, g4, g5, g6, g7, g8]) rfl ⟨rfl, hCF⟩

set_option maxRecDepth 100000 in
set_option maxHeartbeats 8000000 in
theorem dec_tag {l : List UInt8} (hl : l.length = 33) (h0 : sb l 0 ≠ 0) (h2 : sb l 0 ≠ 2) (h3 : sb l 0 ≠ 3) (w : World) :
    Calls Try.prog 29 #[.string ⟨l.toArray⟩] w fun e w' => e = .returned (.tuple #[.agg #[.int .u64 0, .int .u64 0, .int .u64 0, .int .u64 0, .int .u64 0, .int .u64 0, .int .u64 0, .int .u64 0, .bool false], .int .i64 4]) ∧ Chg [] w w' := by
  have hix := fun w => index_sb (l := l) (j := 0) (by omega) w
  obtain ⟨s, hs⟩ : ∃ s : ByteArray, ⟨l.toArray⟩ = s := ⟨_, rfl⟩
  have hsz := size_str hs
  rw [hl] at hsz
  obtain ⟨c, hc⟩ : ∃ c, sb l 0 = c := ⟨_, rfl⟩
  rw [hc] at hix h0 h2 h3
  rw [hs] at hix ⊢
  replace hix : ∀ w, (Instr.index 9 (.string s) (.int .i64 0)).run Try.prog w = .ok (.int .u8 (c : Nat)) w := hix
  have t0 : ((c : Int) != 0) = true := by simp; omega
  have t2 : ((c : Int) != 2) = true := by simp; omega
  have t3 : ((c : Int) != 3) = true := by simp; omega
  clear hs hl hc h0 h2 h3
  obtain ⟨W0, hW0⟩ : ∃ W0, w.alloc (.cells #[.int .u64 0, .int .u64 0, .int .u64 0, .int .u64 0, .int .u64 0, .int .u64 0, .int .u64 0, .int .u64 0, .bool false] 26) = W0 := ⟨_, rfl⟩
  obtain ⟨R, hR⟩ : ∃ R, w.heap.size = R := ⟨_, rfl⟩
  have HR := Lib.hid (show U9 W0 R 0 0 false from U9.zero (by rw [← hW0, ← hR]; exact has_alloc_new _ _))
  have HC := Lib.hid (show Chg [] w W0 by rw [← hW0]; exact (Chg.refl _ _).alloc _)
  have HwR := Lib.hid (Nat.le_of_eq hR)
  go_enter Try.func29, Try.ntmps29
  go_upto_region 1 with fail
  try rw [hW0]
  try rw [hR]
  clear hW0 hR
  go_upto_region 2 with fail
  obtain ⟨n0, n1, n2, n3, n4, n5, n6, n7, n8⟩ := HR.out.all
  simp only [lm_zero'] at n0 n1 n2 n3 n4 n5 n6 n7
  obtain ⟨nz0, nz1, nz2, nz3, nz4, nz5, nz6, nz7, nz8⟩ := HR.out.fzs'
  have hll := HR.out.lt
  have HF := Lib.hid (HR.out.put 0 0 false); have HCF := Lib.hid (HC.out.put9 (b := R) (Or.inr HwR.out) 0 0 false)
  go_wp2_with fail
  have hF := HF.out; have hCF := HCF.out
  refine (id ?_ : bodyPost _ _ _ _ _ (put9 W0 R 0 0 false))
  clear HF HCF
  generalize put9 W0 R 0 0 false = W5 at *
  obtain ⟨g0, g1, g2, g3, g4, g5, g6, g7, g8⟩ := hF.all
  simp only [lm_zero'] at g0 g1 g2 g3 g4 g5 g6 g7
  exact bodyPost_ret (v := .tuple #[.agg #[.int .u64 0, .int .u64 0, .int .u64 0, .int .u64 0, .int .u64 0, .int .u64 0, .int .u64 0, .int .u64 0, .bool false], .int .i64 4]) (by simp [results, Try.results29, go_sem, g0, g1, g2, g3, g4, g5, g6, g7, g8]) rfl ⟨rfl, hCF⟩

set_option maxRecDepth 100000 in
set_option maxHeartbeats 8000000 in
theorem dec_zero {l : List UInt8} (hl : l.length = 33) (h0 : sb l 0 = 0) (hz : (l = List.replicate 33 0)) (w : World) :
    Calls Try.prog 29 #[.string ⟨l.toArray⟩] w fun e w' => e = .returned (.tuple #[.agg #[.int .u64 0, .int .u64 0, .int .u64 0, .int .u64 0, .int .u64 0, .int .u64 0, .int .u64 0, .int .u64 0, .bool true], .int .i64 0]) ∧ Chg [] w w' := by
  have hix := fun w => index_sb (l := l) (j := 0) (by omega) w
  have hmk := make33
  have hcv := conv33
  obtain ⟨s, hs⟩ : ∃ s : ByteArray, ⟨l.toArray⟩ = s := ⟨_, rfl⟩
  have hsz := size_str hs
  rw [hl] at hsz
  rw [h0] at hix
  rw [hs] at hix ⊢
  replace hix : ∀ w, (Instr.index 9 (.string s) (.int .i64 0)).run Try.prog w = .ok (.int .u8 0) w := hix
  obtain ⟨z, hze⟩ : ∃ z : ByteArray, ⟨(List.replicate 33 (0 : UInt8)).toArray⟩ = z := ⟨_, rfl⟩
  rw [hze] at hcv
  have heq : (s.toList == z.toList) = true := by
    rw [← hs, ← hze, ByteArray.toList_mk, ByteArray.toList_mk]
    simpa using hz
  clear hs hl h0 hz hze
  obtain ⟨W0, hW0⟩ : ∃ W0, w.alloc (.cells #[.int .u64 0, .int .u64 0, .int .u64 0, .int .u64 0, .int .u64 0, .int .u64 0, .int .u64 0, .int .u64 0, .bool false] 26) = W0 := ⟨_, rfl⟩
  obtain ⟨R, hR⟩ : ∃ R, w.heap.size = R := ⟨_, rfl⟩
  have HR := Lib.hid (show U9 W0 R 0 0 false from U9.zero (by rw [← hW0, ← hR]; exact has_alloc_new _ _))
  have HC := Lib.hid (show Chg [] w W0 by rw [← hW0]; exact (Chg.refl _ _).alloc _)
  have HwR := Lib.hid (Nat.le_of_eq hR)
  go_enter Try.func29, Try.ntmps29
  go_upto_region 1 with fail
  try rw [hW0]
  try rw [hR]
  clear hW0 hR
  have HC9 := Lib.hid (HC.out.alloc (.cells #[.int .u8 0, .int .u8 0, .int .u8 0, .int .u8 0, .int .u8 0, .int .u8 0, .int .u8 0, .int .u8 0, .int .u8 0, .int .u8 0, .int .u8 0, .int .u8 0, .int .u8 0, .int .u8 0, .int .u8 0, .int .u8 0, .int .u8 0, .int .u8 0, .int .u8 0, .int .u8 0, .int .u8 0, .int .u8 0, .int .u8 0, .int .u8 0, .int .u8 0, .int .u8 0, .int .u8 0, .int .u8 0, .int .u8 0, .int .u8 0, .int .u8 0, .int .u8 0, .int .u8 0] 5))
  have HR9 := Lib.hid (HR.out.chg ((Chg.refl [] W0).alloc (.cells #[.int .u8 0, .int .u8 0, .int .u8 0, .int .u8 0, .int .u8 0, .int .u8 0, .int .u8 0, .int .u8 0, .int .u8 0, .int .u8 0, .int .u8 0, .int .u8 0, .int .u8 0, .int .u8 0, .int .u8 0, .int .u8 0, .int .u8 0, .int .u8 0, .int .u8 0, .int .u8 0, .int .u8 0, .int .u8 0, .int .u8 0, .int .u8 0, .int .u8 0, .int .u8 0, .int .u8 0, .int .u8 0, .int .u8 0, .int .u8 0, .int .u8 0, .int .u8 0, .int .u8 0] 5)) nmN)
  go_upto_region 6 with fail
  replace HC := HC9
  replace HR := HR9
  clear HC9 HR9
  generalize W0.alloc (.cells #[.int .u8 0, .int .u8 0, .int .u8 0, .int .u8 0, .int .u8 0, .int .u8 0, .int .u8 0, .int .u8 0, .int .u8 0, .int .u8 0, .int .u8 0, .int .u8 0, .int .u8 0, .int .u8 0, .int .u8 0, .int .u8 0, .int .u8 0, .int .u8 0, .int .u8 0, .int .u8 0, .int .u8 0, .int .u8 0, .int .u8 0, .int .u8 0, .int .u8 0, .int .u8 0, .int .u8 0, .int .u8 0, .int .u8 0, .int .u8 0, .int .u8 0, .int .u8 0, .int .u8 0] 5) = W1 at *
  go_upto_region 6 with fail
  obtain ⟨n0, n1, n2, n3, n4, n5, n6, n7, n8⟩ := HR.out.all
  simp only [lm_zero'] at n0 n1 n2 n3 n4 n5 n6 n7
  obtain ⟨nz0, nz1, nz2, nz3, nz4, nz5, nz6, nz7, nz8⟩ := HR.out.fzs'
  have hll := HR.out.lt
  have HF := Lib.hid (HR.out.put 0 0 true); have HCF := Lib.hid (HC.out.put9 (b := R) (Or.inr HwR.out) 0 0 true)
  go_wp2_with fail
  have hF := HF.out; have hCF := HCF.out
  refine (id ?_ : bodyPost _ _ _ _ _ (put9 W1 R 0 0 true))
  clear HF HCF
  generalize put9 W1 R 0 0 true = W5 at *
  obtain ⟨g0, g1, g2, g3, g4, g5, g6, g7, g8⟩ := hF.all
  simp only [lm_zero'] at g0 g1 g2 g3 g4 g5 g6 g7
  exact bodyPost_ret (v := .tuple #[.agg #[.int .u64 0, .int .u64 0, .int .u64 0, .int .u64 0, .int .u64 0, .int .u64 0, .int .u64 0, .int .u64 0, .bool true], .int .i64 0]) (by simp [results, Try.results29, go_sem, g0, g1, g2, g3, g4, g5, g6, g7, g8]) rfl ⟨rfl, hCF⟩

set_option maxRecDepth 100000 in
set_option maxHeartbeats 8000000 in
theorem dec_zbad {l : List UInt8} (hl : l.length = 33) (h0 : sb l 0 = 0) (hz : ¬ (l = List.replicate 33 0)) (w : World) :
    Calls Try.prog 29 #[.string ⟨l.toArray⟩] w fun e w' => e = .returned (.tuple #[.agg #[.int .u64 0, .int .u64 0, .int .u64 0, .int .u64 0, .int .u64 0, .int .u64 0, .int .u64 0, .int .u64 0, .bool false], .int .i64 4]) ∧ Chg [] w w' := by
  have hix := fun w => index_sb (l := l) (j := 0) (by omega) w
  have hmk := make33
  have hcv := conv33
  obtain ⟨s, hs⟩ : ∃ s : ByteArray, ⟨l.toArray⟩ = s := ⟨_, rfl⟩
  have hsz := size_str hs
  rw [hl] at hsz
  rw [h0] at hix
  rw [hs] at hix ⊢
  replace hix : ∀ w, (Instr.index 9 (.string s) (.int .i64 0)).run Try.prog w = .ok (.int .u8 0) w := hix
  obtain ⟨z, hze⟩ : ∃ z : ByteArray, ⟨(List.replicate 33 (0 : UInt8)).toArray⟩ = z := ⟨_, rfl⟩
  rw [hze] at hcv
  have heq : (s.toList == z.toList) = false := by
    rw [← hs, ← hze, ByteArray.toList_mk, ByteArray.toList_mk]
    simpa using hz
  clear hs hl h0 hz hze
  obtain ⟨W0, hW0⟩ : ∃ W0, w.alloc (.cells #[.int .u64 0, .int .u64 0, .int .u64 0, .int .u64 0, .int .u64 0, .int .u64 0, .int .u64 0, .int .u64 0, .bool false] 26) = W0 := ⟨_, rfl⟩
  obtain ⟨R, hR⟩ : ∃ R, w.heap.size = R := ⟨_, rfl⟩
  have HR := Lib.hid (show U9 W0 R 0 0 false from U9.zero (by rw [← hW0, ← hR]; exact has_alloc_new _ _))
  have HC := Lib.hid (show Chg [] w W0 by rw [← hW0]; exact (Chg.refl _ _).alloc _)
  have HwR := Lib.hid (Nat.le_of_eq hR)
  go_enter Try.func29, Try.ntmps29
  go_upto_region 1 with fail
  try rw [hW0]
  try rw [hR]
  clear hW0 hR
  have HC9 := Lib.hid (HC.out.alloc (.cells #[.int .u8 0, .int .u8 0, .int .u8 0, .int .u8 0, .int .u8 0, .int .u8 0, .int .u8 0, .int .u8 0, .int .u8 0, .int .u8 0, .int .u8 0, .int .u8 0, .int .u8 0, .int .u8 0, .int .u8 0, .int .u8 0, .int .u8 0, .int .u8 0, .int .u8 0, .int .u8 0, .int .u8 0, .int .u8 0, .int .u8 0, .int .u8 0, .int .u8 0, .int .u8 0, .int .u8 0, .int .u8 0, .int .u8 0, .int .u8 0, .int .u8 0, .int .u8 0, .int .u8 0] 5))
  have HR9 := Lib.hid (HR.out.chg ((Chg.refl [] W0).alloc (.cells #[.int .u8 0, .int .u8 0, .int .u8 0, .int .u8 0, .int .u8 0, .int .u8 0, .int .u8 0, .int .u8 0, .int .u8 0, .int .u8 0, .int .u8 0, .int .u8 0, .int .u8 0, .int .u8 0, .int .u8 0, .int .u8 0, .int .u8 0, .int .u8 0, .int .u8 0, .int .u8 0, .int .u8 0, .int .u8 0, .int .u8 0, .int .u8 0, .int .u8 0, .int .u8 0, .int .u8 0, .int .u8 0, .int .u8 0, .int .u8 0, .int .u8 0, .int .u8 0, .int .u8 0] 5)) nmN)
  go_upto_region 5 with fail
  replace HC := HC9
  replace HR := HR9
  clear HC9 HR9
  generalize W0.alloc (.cells #[.int .u8 0, .int .u8 0, .int .u8 0, .int .u8 0, .int .u8 0, .int .u8 0, .int .u8 0, .int .u8 0, .int .u8 0, .int .u8 0, .int .u8 0, .int .u8 0, .int .u8 0, .int .u8 0, .int .u8 0, .int .u8 0, .int .u8 0, .int .u8 0, .int .u8 0, .int .u8 0, .int .u8 0, .int .u8 0, .int .u8 0, .int .u8 0, .int .u8 0, .int .u8 0, .int .u8 0, .int .u8 0, .int .u8 0, .int .u8 0, .int .u8 0, .int .u8 0, .int .u8 0] 5) = W1 at *
  go_upto_region 5 with fail
  obtain ⟨n0, n1, n2, n3, n4, n5, n6, n7, n8⟩ := HR.out.all
  simp only [lm_zero'] at n0 n1 n2 n3 n4 n5 n6 n7
  obtain ⟨nz0, nz1, nz2, nz3, nz4, nz5, nz6, nz7, nz8⟩ := HR.out.fzs'
  have hll := HR.out.lt
  have HF := Lib.hid (HR.out.put 0 0 false); have HCF := Lib.hid (HC.out.put9 (b := R) (Or.inr HwR.out) 0 0 false)
  go_wp2_with fail
  have hF := HF.out; have hCF := HCF.out
  refine (id ?_ : bodyPost _ _ _ _ _ (put9 W1 R 0 0 false))
  clear HF HCF
  generalize put9 W1 R 0 0 false = W5 at *
  obtain ⟨g0, g1, g2, g3, g4, g5, g6, g7, g8⟩ := hF.all
  simp only [lm_zero'] at g0 g1 g2 g3 g4 g5 g6 g7
  exact bodyPost_ret (v := .tuple #[.agg #[.int .u64 0, .int .u64 0, .int .u64 0, .int .u64 0, .int .u64 0, .int .u64 0, .int .u64 0, .int .u64 0, .bool false], .int .i64 4]) (by simp [results, Try.results29, go_sem, g0, g1, g2, g3, g4, g5, g6, g7, g8]) rfl ⟨rfl, hCF⟩

end Go.Proofs.Ytplldbmjdnikeaa
