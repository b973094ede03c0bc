import Derived.Test.YtplldbmjdnikeaaFi1

/- The walks of field.Field.two, Add, Sub, Mul, Neg. Printed by fieldd.py. -/
namespace Go.Proofs.Ytplldbmjdnikeaa
set_option linter.unusedVariables false
set_option linter.unusedSimpArgs false
open Go.RowKit

set_option maxRecDepth 100000 in
set_option maxHeartbeats 4000000 in
theorem two_plus {m v ri f a root x y : Nat} (hW : Way m v ri) (hx : x < m) (hy : y < m) (w : World) (hF : Fd w f a m v root) :
    Calls Try.prog 55 #[.pointer (some ⟨f, 0, none⟩), .func (.func 56) #[.pointer (some ⟨f, 0, none⟩)] #[], .agg (num x), .agg (num y)] w fun e w' =>
    e = .returned (.tuple #[.agg (num ((x + y) % m)), .int .i64 0]) ∧ Chg [] w w' := by
  have hdo := fun w (hF : Fd w f a m v root) => field_plus hW.lt hx hy w hF.m4
  have hcx := fun w hF => field_check (m := m) (f := f) (x := x) hW.lt (Nat.lt_trans hx hW.lt) w hF
  have hcy := fun w hF => field_check (m := m) (f := f) (x := y) hW.lt (Nat.lt_trans hy hW.lt) w hF
  rw [show chkN x m = 0 from if_pos hx] at hcx
  rw [show chkN y m = 0 from if_pos hy] at hcy
  obtain ⟨z, hz⟩ : ∃ z, (x + y) % m = z := ⟨_, rfl⟩
  rw [hz] at hdo ⊢
  unfold num limbs at hdo hcx hcy
  have HDo := Lib.hid hdo; have HCx := Lib.hid hcx; have HCy := Lib.hid hcy
  clear hdo hcx hcy hz hx hy hW
  obtain ⟨W0, hW0⟩ : ∃ W0, ((w.alloc (.cells #[.int .u64 (lm x 0 : Nat), .int .u64 (lm x 1 : Nat), .int .u64 (lm x 2 : Nat), .int .u64 (lm x 3 : Nat)] 24)).alloc (.cells #[.int .u64 (lm y 0 : Nat), .int .u64 (lm y 1 : Nat), .int .u64 (lm y 2 : Nat), .int .u64 (lm y 3 : Nat)] 24)).alloc (.cells #[.int .u64 0, .int .u64 0, .int .u64 0, .int .u64 0] 24) = W0 := ⟨_, rfl⟩
  have uX : U4 W0 w.heap.size 24 (lm x) := by rw [← hW0]; exact has_alloc (has_alloc (has_alloc_new _ _))
  have uY : U4 W0 (w.heap.size + 1) 24 (lm y) := by rw [← hW0]; exact has_alloc (has_alloc_at (by simp))
  have uR : U4 W0 (w.heap.size + 1 + 1) 24 (fun _ => 0) := by rw [← hW0]; exact has_alloc_at (by simp)
  have hC0 : Chg [] w W0 := by rw [← hW0]; exact (((Chg.refl _ _).alloc _).alloc _).alloc _
  have hF0 := hF.ch hC0
  obtain ⟨x0, x1, x2, x3⟩ := four4 fun _ => (uX).cell
  obtain ⟨y0, y1, y2, y3⟩ := four4 fun _ => (uY).cell
  have HX := Lib.hid uX; have HY := Lib.hid uY
  have HR := Lib.hid uR; have HC0 := Lib.hid hC0; have HF0 := Lib.hid hF0
  unfold num limbs
  clear uX uY uR hC0 hF0 hF
  go_enter Try.func55, Try.ntmps55
  go_wp2_with fail
  try rw [hW0]
  clear hW0
  obtain ⟨P, hP⟩ : ∃ P, w.heap.size = P := ⟨_, rfl⟩
  rw [hP] at HX HY HR x0 x1 x2 x3 y0 y1 y2 y3 ⊢
  refine (HCx.out _ HF0.out.m4).mono ?_
  rintro e w1 ⟨rfl, hC1⟩
  have uX := HX.out.chg hC1 nmN
  have uY := HY.out.chg hC1 nmN
  have HR1 := Lib.hid (HR.out.chg hC1 nmN); have HF1 := Lib.hid (HF0.out.ch hC1); have HC1 := Lib.hid (HC0.out.trans hC1)
  clear x0 x1 x2 x3 y0 y1 y2 y3 HX HY HR HF0 HC0 hC1
  obtain ⟨y0, y1, y2, y3⟩ := four4 fun _ => (uY).cell
  have HX := Lib.hid uX; have HY := Lib.hid uY
  clear uX uY
  go_wp2_with fail
  refine (HCy.out _ HF1.out.m4).mono ?_
  rintro e w2 ⟨rfl, hC1⟩
  have uX := HX.out.chg hC1 nmN
  have uY := HY.out.chg hC1 nmN
  have HR2 := Lib.hid (HR1.out.chg hC1 nmN); have HF2 := Lib.hid (HF1.out.ch hC1); have HC2 := Lib.hid (HC1.out.trans hC1)
  clear y0 y1 y2 y3 HX HY HR1 HF1 HC1 hC1
  obtain ⟨x0, x1, x2, x3⟩ := four4 fun _ => (uX).cell
  obtain ⟨y0, y1, y2, y3⟩ := four4 fun _ => (uY).cell
  clear uX uY
  go_wp2_with fail
  refine (HDo.out _ HF2.out).mono ?_
  rintro e w3 ⟨rfl, hC1⟩
  have HR9 := Lib.hid (HR2.out.chg hC1 nmN); have HC9 := Lib.hid (HC2.out.trans hC1)
  clear x0 x1 x2 x3 y0 y1 y2 y3 HR2 HF2 HC2 hC1
  have hR9 := HR9.out
  have hC9 := HC9.out
  have hll := hR9.lt
  obtain ⟨q0, q1, q2, q3⟩ := four4 fun _ => (hR9).cell
  have qz0 := (hR9).fz 0; have qz1 := (hR9).fz 1; have qz2 := (hR9).fz 2; have qz3 := (hR9).fz 3
  have HF := Lib.hid (hR9.put (lm z)); have HCF := Lib.hid (hC9.put4 (b := P + 1 + 1) (Or.inr (by omega)) (lm z))
  clear hR9 hC9 HR9 HC9
  go_wp2_with fail
  have hF := HF.out
  have hCF := HCF.out
  refine (id ?_ : bodyPost _ _ _ _ _ (put4 w3 (P + 1 + 1) (lm z)))
  clear HF HCF
  generalize put4 w3 (P + 1 + 1) (lm z) = W5 at *
  obtain ⟨g0, g1, g2, g3⟩ := four4 fun _ => (hF).cell
  exact bodyPost_ret (v := .tuple #[.agg (num z), .int .i64 0]) (by simp [results, Try.results55, go_sem, num, limbs, g0, g1, g2, g3]) rfl ⟨rfl, hCF⟩

set_option maxRecDepth 100000 in
set_option maxHeartbeats 4000000 in
theorem two_minus {m v ri f a root x y : Nat} (hW : Way m v ri) (hx : x < m) (hy : y < m) (w : World) (hF : Fd w f a m v root) :
    Calls Try.prog 55 #[.pointer (some ⟨f, 0, none⟩), .func (.func 87) #[.pointer (some ⟨f, 0, none⟩)] #[], .agg (num x), .agg (num y)] w fun e w' =>
    e = .returned (.tuple #[.agg (num ((x + m - y) % m)), .int .i64 0]) ∧ Chg [] w w' := by
  have hdo := fun w (hF : Fd w f a m v root) => field_minus hW.lt hx hy w hF.m4
  have hcx := fun w hF => field_check (m := m) (f := f) (x := x) hW.lt (Nat.lt_trans hx hW.lt) w hF
  have hcy := fun w hF => field_check (m := m) (f := f) (x := y) hW.lt (Nat.lt_trans hy hW.lt) w hF
  rw [show chkN x m = 0 from if_pos hx] at hcx
  rw [show chkN y m = 0 from if_pos hy] at hcy
  obtain ⟨z, hz⟩ : ∃ z, (x + m - y) % m = z := ⟨_, rfl⟩
  rw [hz] at hdo ⊢
  unfold num limbs at hdo hcx hcy
  have HDo := Lib.hid hdo; have HCx := Lib.hid hcx; have HCy := Lib.hid hcy
  clear hdo hcx hcy hz hx hy hW
  obtain ⟨W0, hW0⟩ : ∃ W0, ((w.alloc (.cells #[.int .u64 (lm x 0 : Nat), .int .u64 (lm x 1 : Nat), .int .u64 (lm x 2 : Nat), .int .u64 (lm x 3 : Nat)] 24)).alloc (.cells #[.int .u64 (lm y 0 : Nat), .int .u64 (lm y 1 : Nat), .int .u64 (lm y 2 : Nat), .int .u64 (lm y 3 : Nat)] 24)).alloc (.cells #[.int .u64 0, .int .u64 0, .int .u64 0, .int .u64 0] 24) = W0 := ⟨_, rfl⟩
  have uX : U4 W0 w.heap.size 24 (lm x) := by rw [← hW0]; exact has_alloc (has_alloc (has_alloc_new _ _))
  have uY : U4 W0 (w.heap.size + 1) 24 (lm y) := by rw [← hW0]; exact has_alloc (has_alloc_at (by simp))
  have uR : U4 W0 (w.heap.size + 1 + 1) 24 (fun _ => 0) := by rw [← hW0]; exact has_alloc_at (by simp)
  have hC0 : Chg [] w W0 := by rw [← hW0]; exact (((Chg.refl _ _).alloc _).alloc _).alloc _
  have hF0 := hF.ch hC0
  obtain ⟨x0, x1, x2, x3⟩ := four4 fun _ => (uX).cell
  obtain ⟨y0, y1, y2, y3⟩ := four4 fun _ => (uY).cell
  have HX := Lib.hid uX; have HY := Lib.hid uY
  have HR := Lib.hid uR; have HC0 := Lib.hid hC0; have HF0 := Lib.hid hF0
  unfold num limbs
  clear uX uY uR hC0 hF0 hF
  go_enter Try.func55, Try.ntmps55
  go_wp2_with fail
  try rw [hW0]
  clear hW0
  obtain ⟨P, hP⟩ : ∃ P, w.heap.size = P := ⟨_, rfl⟩
  rw [hP] at HX HY HR x0 x1 x2 x3 y0 y1 y2 y3 ⊢
  refine (HCx.out _ HF0.out.m4).mono ?_
  rintro e w1 ⟨rfl, hC1⟩
  have uX := HX.out.chg hC1 nmN
  have uY := HY.out.chg hC1 nmN
  have HR1 := Lib.hid (HR.out.chg hC1 nmN); have HF1 := Lib.hid (HF0.out.ch hC1); have HC1 := Lib.hid (HC0.out.trans hC1)
  clear x0 x1 x2 x3 y0 y1 y2 y3 HX HY HR HF0 HC0 hC1
  obtain ⟨y0, y1, y2, y3⟩ := four4 fun _ => (uY).cell
  have HX := Lib.hid uX; have HY := Lib.hid uY
  clear uX uY
  go_wp2_with fail
  refine (HCy.out _ HF1.out.m4).mono ?_
  rintro e w2 ⟨rfl, hC1⟩
  have uX := HX.out.chg hC1 nmN
  have uY := HY.out.chg hC1 nmN
  have HR2 := Lib.hid (HR1.out.chg hC1 nmN); have HF2 := Lib.hid (HF1.out.ch hC1); have HC2 := Lib.hid (HC1.out.trans hC1)
  clear y0 y1 y2 y3 HX HY HR1 HF1 HC1 hC1
  obtain ⟨x0, x1, x2, x3⟩ := four4 fun _ => (uX).cell
  obtain ⟨y0, y1, y2, y3⟩ := four4 fun _ => (uY).cell
  clear uX uY
  go_wp2_with fail
  refine (HDo.out _ HF2.out).mono ?_
  rintro e w3 ⟨rfl, hC1⟩
  have HR9 := Lib.hid (HR2.out.chg hC1 nmN); have HC9 := Lib.hid (HC2.out.trans hC1)
  clear x0 x1 x2 x3 y0 y1 y2 y3 HR2 HF2 HC2 hC1
  have hR9 := HR9.out
  have hC9 := HC9.out
  have hll := hR9.lt
  obtain ⟨q0, q1, q2, q3⟩ := four4 fun _ => (hR9).cell
  have qz0 := (hR9).fz 0; have qz1 := (hR9).fz 1; have qz2 := (hR9).fz 2; have qz3 := (hR9).fz 3
  have HF := Lib.hid (hR9.put (lm z)); have HCF := Lib.hid (hC9.put4 (b := P + 1 + 1) (Or.inr (by omega)) (lm z))
  clear hR9 hC9 HR9 HC9
  go_wp2_with fail
  have hF := HF.out
  have hCF := HCF.out
  refine (id ?_ : bodyPost _ _ _ _ _ (put4 w3 (P + 1 + 1) (lm z)))
  clear HF HCF
  generalize put4 w3 (P + 1 + 1) (lm z) = W5 at *
  obtain ⟨g0, g1, g2, g3⟩ := four4 fun _ => (hF).cell
  exact bodyPost_ret (v := .tuple #[.agg (num z), .int .i64 0]) (by simp [results, Try.results55, go_sem, num, limbs, g0, g1, g2, g3]) rfl ⟨rfl, hCF⟩

set_option maxRecDepth 100000 in
set_option maxHeartbeats 4000000 in
theorem two_times {m v ri f a root x y : Nat} (hW : Way m v ri) (hx : x < m) (hy : y < m) (w : World) (hF : Fd w f a m v root) :
    Calls Try.prog 55 #[.pointer (some ⟨f, 0, none⟩), .func (.func 57) #[.pointer (some ⟨f, 0, none⟩)] #[], .agg (num x), .agg (num y)] w fun e w' =>
    e = .returned (.tuple #[.agg (num (x * y % m)), .int .i64 0]) ∧ Chg [] w w' := by
  have hdo := fun w (hF : Fd w f a m v root) => field_times hW hx hy w hF
  have hcx := fun w hF => field_check (m := m) (f := f) (x := x) hW.lt (Nat.lt_trans hx hW.lt) w hF
  have hcy := fun w hF => field_check (m := m) (f := f) (x := y) hW.lt (Nat.lt_trans hy hW.lt) w hF
  rw [show chkN x m = 0 from if_pos hx] at hcx
  rw [show chkN y m = 0 from if_pos hy] at hcy
  obtain ⟨z, hz⟩ : ∃ z, x * y % m = z := ⟨_, rfl⟩
  rw [hz] at hdo ⊢
  unfold num limbs at hdo hcx hcy
  have HDo := Lib.hid hdo; have HCx := Lib.hid hcx; have HCy := Lib.hid hcy
  clear hdo hcx hcy hz hx hy hW
  obtain ⟨W0, hW0⟩ : ∃ W0, ((w.alloc (.cells #[.int .u64 (lm x 0 : Nat), .int .u64 (lm x 1 : Nat), .int .u64 (lm x 2 : Nat), .int .u64 (lm x 3 : Nat)] 24)).alloc (.cells #[.int .u64 (lm y 0 : Nat), .int .u64 (lm y 1 : Nat), .int .u64 (lm y 2 : Nat), .int .u64 (lm y 3 : Nat)] 24)).alloc (.cells #[.int .u64 0, .int .u64 0, .int .u64 0, .int .u64 0] 24) = W0 := ⟨_, rfl⟩
  have uX : U4 W0 w.heap.size 24 (lm x) := by rw [← hW0]; exact has_alloc (has_alloc (has_alloc_new _ _))
  have uY : U4 W0 (w.heap.size + 1) 24 (lm y) := by rw [← hW0]; exact has_alloc (has_alloc_at (by simp))
  have uR : U4 W0 (w.heap.size + 1 + 1) 24 (fun _ => 0) := by rw [← hW0]; exact has_alloc_at (by simp)
  have hC0 : Chg [] w W0 := by rw [← hW0]; exact (((Chg.refl _ _).alloc _).alloc _).alloc _
  have hF0 := hF.ch hC0
  obtain ⟨x0, x1, x2, x3⟩ := four4 fun _ => (uX).cell
  obtain ⟨y0, y1, y2, y3⟩ := four4 fun _ => (uY).cell
  have HX := Lib.hid uX; have HY := Lib.hid uY
  have HR := Lib.hid uR; have HC0 := Lib.hid hC0; have HF0 := Lib.hid hF0
  unfold num limbs
  clear uX uY uR hC0 hF0 hF
  go_enter Try.func55, Try.ntmps55
  go_wp2_with fail
  try rw [hW0]
  clear hW0
  obtain ⟨P, hP⟩ : ∃ P, w.heap.size = P := ⟨_, rfl⟩
  rw [hP] at HX HY HR x0 x1 x2 x3 y0 y1 y2 y3 ⊢
  refine (HCx.out _ HF0.out.m4).mono ?_
  rintro e w1 ⟨rfl, hC1⟩
  have uX := HX.out.chg hC1 nmN
  have uY := HY.out.chg hC1 nmN
  have HR1 := Lib.hid (HR.out.chg hC1 nmN); have HF1 := Lib.hid (HF0.out.ch hC1); have HC1 := Lib.hid (HC0.out.trans hC1)
  clear x0 x1 x2 x3 y0 y1 y2 y3 HX HY HR HF0 HC0 hC1
  obtain ⟨y0, y1, y2, y3⟩ := four4 fun _ => (uY).cell
  have HX := Lib.hid uX; have HY := Lib.hid uY
  clear uX uY
  go_wp2_with fail
  refine (HCy.out _ HF1.out.m4).mono ?_
  rintro e w2 ⟨rfl, hC1⟩
  have uX := HX.out.chg hC1 nmN
  have uY := HY.out.chg hC1 nmN
  have HR2 := Lib.hid (HR1.out.chg hC1 nmN); have HF2 := Lib.hid (HF1.out.ch hC1); have HC2 := Lib.hid (HC1.out.trans hC1)
  clear y0 y1 y2 y3 HX HY HR1 HF1 HC1 hC1
  obtain ⟨x0, x1, x2, x3⟩ := four4 fun _ => (uX).cell
  obtain ⟨y0, y1, y2, y3⟩ := four4 fun _ => (uY).cell
  clear uX uY
  go_wp2_with fail
  refine (HDo.out _ HF2.out).mono ?_
  rintro e w3 ⟨rfl, hC1⟩
  have HR9 := Lib.hid (HR2.out.chg hC1 nmN); have HC9 := Lib.hid (HC2.out.trans hC1)
  clear x0 x1 x2 x3 y0 y1 y2 y3 HR2 HF2 HC2 hC1
  have hR9 := HR9.out
  have hC9 := HC9.out
  have hll := hR9.lt
  obtain ⟨q0, q1, q2, q3⟩ := four4 fun _ => (hR9).cell
  have qz0 := (hR9).fz 0; have qz1 := (hR9).fz 1; have qz2 := (hR9).fz 2; have qz3 := (hR9).fz 3
  have HF := Lib.hid (hR9.put (lm z)); have HCF := Lib.hid (hC9.put4 (b := P + 1 + 1) (Or.inr (by omega)) (lm z))
  clear hR9 hC9 HR9 HC9
  go_wp2_with fail
  have hF := HF.out
  have hCF := HCF.out
  refine (id ?_ : bodyPost _ _ _ _ _ (put4 w3 (P + 1 + 1) (lm z)))
  clear HF HCF
  generalize put4 w3 (P + 1 + 1) (lm z) = W5 at *
  obtain ⟨g0, g1, g2, g3⟩ := four4 fun _ => (hF).cell
  exact bodyPost_ret (v := .tuple #[.agg (num z), .int .i64 0]) (by simp [results, Try.results55, go_sem, num, limbs, g0, g1, g2, g3]) rfl ⟨rfl, hCF⟩

set_option maxRecDepth 100000 in
set_option maxHeartbeats 4000000 in
theorem field_add {m v ri f a root x y : Nat} (hW : Way m v ri) (hx : x < m) (hy : y < m) (w : World) (hF : Fd w f a m v root) :
    Calls Try.prog 24 #[.pointer (some ⟨f, 0, none⟩), .agg (num x), .agg (num y)] w fun e w' =>
    e = .returned (.tuple #[.agg (num ((x + y) % m)), .int .i64 0]) ∧ Chg [] w w' := by
  have hmf : ∀ (fn : Fn) (first cap : Array Value) (w : World), (Instr.makeFunc fn first cap).run Try.prog w = .ok (.func fn first cap) w := fun _ _ _ _ => rfl
  have hdo := fun w (hF : Fd w f a m v root) => two_plus hW hx hy w hF
  obtain ⟨z, hz⟩ : ∃ z, (x + y) % m = z := ⟨_, rfl⟩
  rw [hz] at hdo ⊢
  unfold num limbs at hdo
  have HDo := Lib.hid hdo
  clear hdo hz hx hy hW
  obtain ⟨W0, hW0⟩ : ∃ W0, ((w.alloc (.cells #[.int .u64 (lm x 0 : Nat), .int .u64 (lm x 1 : Nat), .int .u64 (lm x 2 : Nat), .int .u64 (lm x 3 : Nat)] 24)).alloc (.cells #[.int .u64 (lm y 0 : Nat), .int .u64 (lm y 1 : Nat), .int .u64 (lm y 2 : Nat), .int .u64 (lm y 3 : Nat)] 24)).alloc (.cells #[.int .u64 0, .int .u64 0, .int .u64 0, .int .u64 0] 24) = W0 := ⟨_, rfl⟩
  have uX : U4 W0 w.heap.size 24 (lm x) := by rw [← hW0]; exact has_alloc (has_alloc (has_alloc_new _ _))
  have uY : U4 W0 (w.heap.size + 1) 24 (lm y) := by rw [← hW0]; exact has_alloc (has_alloc_at (by simp))
  have uR : U4 W0 (w.heap.size + 1 + 1) 24 (fun _ => 0) := by rw [← hW0]; exact has_alloc_at (by simp)
  have hC0 : Chg [] w W0 := by rw [← hW0]; exact (((Chg.refl _ _).alloc _).alloc _).alloc _
  have hF0 := hF.ch hC0
  obtain ⟨x0, x1, x2, x3⟩ := four4 fun _ => (uX).cell
  obtain ⟨y0, y1, y2, y3⟩ := four4 fun _ => (uY).cell
  have HX := Lib.hid uX; have HY := Lib.hid uY
  have HR := Lib.hid uR; have HC0 := Lib.hid hC0; have HF0 := Lib.hid hF0
  unfold num limbs
  clear uX uY uR hC0 hF0 hF
  go_enter Try.func24, Try.ntmps24
  go_wp2_with fail
  try rw [hW0]
  clear hW0
  obtain ⟨P, hP⟩ : ∃ P, w.heap.size = P := ⟨_, rfl⟩
  rw [hP] at HR ⊢
  clear x0 x1 x2 x3 y0 y1 y2 y3
  refine (HDo.out _ HF0.out).mono ?_
  rintro e w1 ⟨rfl, hC1⟩
  have HR9 := Lib.hid (HR.out.chg hC1 nmN); have HC9 := Lib.hid (HC0.out.trans hC1)
  clear HX HY HR HF0 HC0 hC1
  have hR9 := HR9.out
  have hC9 := HC9.out
  have hll := hR9.lt
  obtain ⟨q0, q1, q2, q3⟩ := four4 fun _ => (hR9).cell
  have qz0 := (hR9).fz 0; have qz1 := (hR9).fz 1; have qz2 := (hR9).fz 2; have qz3 := (hR9).fz 3
  have HF := Lib.hid (hR9.put (lm z)); have HCF := Lib.hid (hC9.put4 (b := P + 1 + 1) (Or.inr (by omega)) (lm z))
  clear hR9 hC9 HR9 HC9
  go_wp2_with fail
  have hF := HF.out
  have hCF := HCF.out
  refine (id ?_ : bodyPost _ _ _ _ _ (put4 w1 (P + 1 + 1) (lm z)))
  clear HF HCF
  generalize put4 w1 (P + 1 + 1) (lm z) = W5 at *
  obtain ⟨g0, g1, g2, g3⟩ := four4 fun _ => (hF).cell
  exact bodyPost_ret (v := .tuple #[.agg (num z), .int .i64 0]) (by simp [results, Try.results24, go_sem, num, limbs, g0, g1, g2, g3]) rfl ⟨rfl, hCF⟩

set_option maxRecDepth 100000 in
set_option maxHeartbeats 4000000 in
theorem field_sub {m v ri f a root x y : Nat} (hW : Way m v ri) (hx : x < m) (hy : y < m) (w : World) (hF : Fd w f a m v root) :
    Calls Try.prog 58 #[.pointer (some ⟨f, 0, none⟩), .agg (num x), .agg (num y)] w fun e w' =>
    e = .returned (.tuple #[.agg (num ((x + m - y) % m)), .int .i64 0]) ∧ Chg [] w w' := by
  have hmf : ∀ (fn : Fn) (first cap : Array Value) (w : World), (Instr.makeFunc fn first cap).run Try.prog w = .ok (.func fn first cap) w := fun _ _ _ _ => rfl
  have hdo := fun w (hF : Fd w f a m v root) => two_minus hW hx hy w hF
  obtain ⟨z, hz⟩ : ∃ z, (x + m - y) % m = z := ⟨_, rfl⟩
  rw [hz] at hdo ⊢
  unfold num limbs at hdo
  have HDo := Lib.hid hdo
  clear hdo hz hx hy hW
  obtain ⟨W0, hW0⟩ : ∃ W0, ((w.alloc (.cells #[.int .u64 (lm x 0 : Nat), .int .u64 (lm x 1 : Nat), .int .u64 (lm x 2 : Nat), .int .u64 (lm x 3 : Nat)] 24)).alloc (.cells #[.int .u64 (lm y 0 : Nat), .int .u64 (lm y 1 : Nat), .int .u64 (lm y 2 : Nat), .int .u64 (lm y 3 : Nat)] 24)).alloc (.cells #[.int .u64 0, .int .u64 0, .int .u64 0, .int .u64 0] 24) = W0 := ⟨_, rfl⟩
  have uX : U4 W0 w.heap.size 24 (lm x) := by rw [← hW0]; exact has_alloc (has_alloc (has_alloc_new _ _))
  have uY : U4 W0 (w.heap.size + 1) 24 (lm y) := by rw [← hW0]; exact has_alloc (has_alloc_at (by simp))
  have uR : U4 W0 (w.heap.size + 1 + 1) 24 (fun _ => 0) := by rw [← hW0]; exact has_alloc_at (by simp)
  have hC0 : Chg [] w W0 := by rw [← hW0]; exact (((Chg.refl _ _).alloc _).alloc _).alloc _
  have hF0 := hF.ch hC0
  obtain ⟨x0, x1, x2, x3⟩ := four4 fun _ => (uX).cell
  obtain ⟨y0, y1, y2, y3⟩ := four4 fun _ => (uY).cell
  have HX := Lib.hid uX; have HY := Lib.hid uY
  have HR := Lib.hid uR; have HC0 := Lib.hid hC0; have HF0 := Lib.hid hF0
  unfold num limbs
  clear uX uY uR hC0 hF0 hF
  go_enter Try.func58, Try.ntmps58
  go_wp2_with fail
  try rw [hW0]
  clear hW0
  obtain ⟨P, hP⟩ : ∃ P, w.heap.size = P := ⟨_, rfl⟩
  rw [hP] at HR ⊢
  clear x0 x1 x2 x3 y0 y1 y2 y3
  refine (HDo.out _ HF0.out).mono ?_
  rintro e w1 ⟨rfl, hC1⟩
  have HR9 := Lib.hid (HR.out.chg hC1 nmN); have HC9 := Lib.hid (HC0.out.trans hC1)
  clear HX HY HR HF0 HC0 hC1
  have hR9 := HR9.out
  have hC9 := HC9.out
  have hll := hR9.lt
  obtain ⟨q0, q1, q2, q3⟩ := four4 fun _ => (hR9).cell
  have qz0 := (hR9).fz 0; have qz1 := (hR9).fz 1; have qz2 := (hR9).fz 2; have qz3 := (hR9).fz 3
  have HF := Lib.hid (hR9.put (lm z)); have HCF := Lib.hid (hC9.put4 (b := P + 1 + 1) (Or.inr (by omega)) (lm z))
  clear hR9 hC9 HR9 HC9
  go_wp2_with fail
  have hF := HF.out
  have hCF := HCF.out
  refine (id ?_ : bodyPost _ _ _ _ _ (put4 w1 (P + 1 + 1) (lm z)))
  clear HF HCF
  generalize put4 w1 (P + 1 + 1) (lm z) = W5 at *
  obtain ⟨g0, g1, g2, g3⟩ := four4 fun _ => (hF).cell
  exact bodyPost_ret (v := .tuple #[.agg (num z), .int .i64 0]) (by simp [results, Try.results58, go_sem, num, limbs, g0, g1, g2, g3]) rfl ⟨rfl, hCF⟩

set_option maxRecDepth 100000 in
set_option maxHeartbeats 4000000 in
theorem field_mul {m v ri f a root x y : Nat} (hW : Way m v ri) (hx : x < m) (hy : y < m) (w : World) (hF : Fd w f a m v root) :
    Calls Try.prog 25 #[.pointer (some ⟨f, 0, none⟩), .agg (num x), .agg (num y)] w fun e w' =>
    e = .returned (.tuple #[.agg (num (x * y % m)), .int .i64 0]) ∧ Chg [] w w' := by
  have hmf : ∀ (fn : Fn) (first cap : Array Value) (w : World), (Instr.makeFunc fn first cap).run Try.prog w = .ok (.func fn first cap) w := fun _ _ _ _ => rfl
  have hdo := fun w (hF : Fd w f a m v root) => two_times hW hx hy w hF
  obtain ⟨z, hz⟩ : ∃ z, x * y % m = z := ⟨_, rfl⟩
  rw [hz] at hdo ⊢
  unfold num limbs at hdo
  have HDo := Lib.hid hdo
  clear hdo hz hx hy hW
  obtain ⟨W0, hW0⟩ : ∃ W0, ((w.alloc (.cells #[.int .u64 (lm x 0 : Nat), .int .u64 (lm x 1 : Nat), .int .u64 (lm x 2 : Nat), .int .u64 (lm x 3 : Nat)] 24)).alloc (.cells #[.int .u64 (lm y 0 : Nat), .int .u64 (lm y 1 : Nat), .int .u64 (lm y 2 : Nat), .int .u64 (lm y 3 : Nat)] 24)).alloc (.cells #[.int .u64 0, .int .u64 0, .int .u64 0, .int .u64 0] 24) = W0 := ⟨_, rfl⟩
  have uX : U4 W0 w.heap.size 24 (lm x) := by rw [← hW0]; exact has_alloc (has_alloc (has_alloc_new _ _))
  have uY : U4 W0 (w.heap.size + 1) 24 (lm y) := by rw [← hW0]; exact has_alloc (has_alloc_at (by simp))
  have uR : U4 W0 (w.heap.size + 1 + 1) 24 (fun _ => 0) := by rw [← hW0]; exact has_alloc_at (by simp)
  have hC0 : Chg [] w W0 := by rw [← hW0]; exact (((Chg.refl _ _).alloc _).alloc _).alloc _
  have hF0 := hF.ch hC0
  obtain ⟨x0, x1, x2, x3⟩ := four4 fun _ => (uX).cell
  obtain ⟨y0, y1, y2, y3⟩ := four4 fun _ => (uY).cell
  have HX := Lib.hid uX; have HY := Lib.hid uY
  have HR := Lib.hid uR; have HC0 := Lib.hid hC0; have HF0 := Lib.hid hF0
  unfold num limbs
  clear uX uY uR hC0 hF0 hF
  go_enter Try.func25, Try.ntmps25
  go_wp2_with fail
  try rw [hW0]
  clear hW0
  obtain ⟨P, hP⟩ : ∃ P, w.heap.size = P := ⟨_, rfl⟩
  rw [hP] at HR ⊢
  clear x0 x1 x2 x3 y0 y1 y2 y3
  refine (HDo.out _ HF0.out).mono ?_
  rintro e w1 ⟨rfl, hC1⟩
  have HR9 := Lib.hid (HR.out.chg hC1 nmN); have HC9 := Lib.hid (HC0.out.trans hC1)
  clear HX HY HR HF0 HC0 hC1
  have hR9 := HR9.out
  have hC9 := HC9.out
  have hll := hR9.lt
  obtain ⟨q0, q1, q2, q3⟩ := four4 fun _ => (hR9).cell
  have qz0 := (hR9).fz 0; have qz1 := (hR9).fz 1; have qz2 := (hR9).fz 2; have qz3 := (hR9).fz 3
  have HF := Lib.hid (hR9.put (lm z)); have HCF := Lib.hid (hC9.put4 (b := P + 1 + 1) (Or.inr (by omega)) (lm z))
  clear hR9 hC9 HR9 HC9
  go_wp2_with fail
  have hF := HF.out
  have hCF := HCF.out
  refine (id ?_ : bodyPost _ _ _ _ _ (put4 w1 (P + 1 + 1) (lm z)))
  clear HF HCF
  generalize put4 w1 (P + 1 + 1) (lm z) = W5 at *
  obtain ⟨g0, g1, g2, g3⟩ := four4 fun _ => (hF).cell
  exact bodyPost_ret (v := .tuple #[.agg (num z), .int .i64 0]) (by simp [results, Try.results25, go_sem, num, limbs, g0, g1, g2, g3]) rfl ⟨rfl, hCF⟩

set_option maxRecDepth 100000 in
set_option maxHeartbeats 4000000 in
theorem field_neg {m v ri f a root x : Nat} (hW : Way m v ri) (hx : x < m) (w : World) (hF : Fd w f a m v root) :
    Calls Try.prog 26 #[.pointer (some ⟨f, 0, none⟩), .agg (num x)] w fun e w' =>
    e = .returned (.tuple #[.agg (num ((0 + m - x) % m)), .int .i64 0]) ∧ Chg [] w w' := by
  have hdo := fun w (hF : Fd w f a m v root) => field_sub (x := 0) hW (by omega) hx w hF
  obtain ⟨z, hz⟩ : ∃ z, (0 + m - x) % m = z := ⟨_, rfl⟩
  rw [hz] at hdo ⊢
  rw [num_zero] at hdo
  unfold num limbs at hdo
  have HDo := Lib.hid hdo
  clear hdo hz hx hW
  obtain ⟨W0, hW0⟩ : ∃ W0, (w.alloc (.cells #[.int .u64 (lm x 0 : Nat), .int .u64 (lm x 1 : Nat), .int .u64 (lm x 2 : Nat), .int .u64 (lm x 3 : Nat)] 24)).alloc (.cells #[.int .u64 0, .int .u64 0, .int .u64 0, .int .u64 0] 24) = W0 := ⟨_, rfl⟩
  have uX : U4 W0 w.heap.size 24 (lm x) := by rw [← hW0]; exact has_alloc (has_alloc_new _ _)
  have uR : U4 W0 (w.heap.size + 1) 24 (fun _ => 0) := by rw [← hW0]; exact has_alloc_at (by simp)
  have hC0 : Chg [] w W0 := by rw [← hW0]; exact ((Chg.refl _ _).alloc _).alloc _
  have hF0 := hF.ch hC0
  obtain ⟨x0, x1, x2, x3⟩ := four4 fun _ => (uX).cell
  have HR := Lib.hid uR; have HC0 := Lib.hid hC0; have HF0 := Lib.hid hF0
  unfold num limbs
  clear uX uR hC0 hF0 hF
  go_enter Try.func26, Try.ntmps26
  go_wp2_with fail
  try rw [hW0]
  clear hW0
  obtain ⟨P, hP⟩ : ∃ P, w.heap.size = P := ⟨_, rfl⟩
  rw [hP] at HR ⊢
  clear x0 x1 x2 x3
  refine (HDo.out _ HF0.out).mono ?_
  rintro e w1 ⟨rfl, hC1⟩
  have HR9 := Lib.hid (HR.out.chg hC1 nmN); have HC9 := Lib.hid (HC0.out.trans hC1)
  clear HR HF0 HC0 hC1
  have hR9 := HR9.out
  have hC9 := HC9.out
  have hll := hR9.lt
  obtain ⟨q0, q1, q2, q3⟩ := four4 fun _ => (hR9).cell
  have qz0 := (hR9).fz 0; have qz1 := (hR9).fz 1; have qz2 := (hR9).fz 2; have qz3 := (hR9).fz 3
  have HF := Lib.hid (hR9.put (lm z)); have HCF := Lib.hid (hC9.put4 (b := P + 1) (Or.inr (by omega)) (lm z))
  clear hR9 hC9 HR9 HC9
  go_wp2_with fail
  have hF := HF.out
  have hCF := HCF.out
  refine (id ?_ : bodyPost _ _ _ _ _ (put4 w1 (P + 1) (lm z)))
  clear HF HCF
  generalize put4 w1 (P + 1) (lm z) = W5 at *
  obtain ⟨g0, g1, g2, g3⟩ := four4 fun _ => (hF).cell
  exact bodyPost_ret (v := .tuple #[.agg (num z), .int .i64 0]) (by simp [results, Try.results26, go_sem, num, limbs, g0, g1, g2, g3]) rfl ⟨rfl, hCF⟩

end Go.Proofs.Ytplldbmjdnikeaa

/- The walk of field.Field.Pow. -/
namespace Go.Proofs.Ytplldbmjdnikeaa
set_option linter.unusedVariables false
set_option linter.unusedSimpArgs false
open Go.RowKit

theorem Way.mm {m v ri : Nat} (h : Way m v ri) (a b : Nat) : a * B6 ^ 4 % m * (b * B6 ^ 4 % m) * ri % m = a * b * B6 ^ 4 % m := by
  have hr := h.ri
  generalize B6 ^ 4 = R at *
  have e1 : a * R % m * (b * R % m) * ri % m = a * b * R * (R * ri) % m := by
    rw [Nat.mul_assoc, Nat.mod_mul_mod, Nat.mul_left_comm, Nat.mod_mul_mod]
    congr 1
    simp only [Nat.mul_comm, Nat.mul_left_comm, Nat.mul_assoc]
  rw [e1, Nat.mul_mod, hr, Nat.mul_one, Nat.mod_mod]
theorem Way.mf {m v ri : Nat} (h : Way m v ri) (a : Nat) : a * B6 ^ 4 % m * ri % m = a % m := by
  have hr := h.ri
  generalize B6 ^ 4 = R at *
  rw [Nat.mod_mul_mod, Nat.mul_assoc, Nat.mul_mod, hr, Nat.mul_one, Nat.mod_mod]

/-- A power's beginning, in Montgomery's way. -/
def pwN (x e m n : Nat) : Nat := x ^ (e / 2 ^ n) * B6 ^ 4 % m
theorem pw_sq {m v ri : Nat} (h : Way m v ri) (x e j : Nat) : pwN x e m (j + 1) * pwN x e m (j + 1) * ri % m = x ^ (2 * (e / 2 ^ (j + 1))) * B6 ^ 4 % m := by
  unfold pwN
  generalize e / 2 ^ (j + 1) = E
  rw [h.mm, Nat.two_mul, Nat.pow_add]
theorem pw_bit0 {x e m j : Nat} (hb : e / 2 ^ j % 2 = 0) : x ^ (2 * (e / 2 ^ (j + 1))) * B6 ^ 4 % m = pwN x e m j := by
  unfold pwN
  congr 3
  rw [Nat.pow_succ, ← Nat.div_div_eq_div_mul]; omega
theorem pw_bit1 {m v ri : Nat} (h : Way m v ri) {x e j : Nat} (hb : e / 2 ^ j % 2 = 1) : x ^ (2 * (e / 2 ^ (j + 1))) * B6 ^ 4 % m * (x * B6 ^ 4 % m) * ri % m = pwN x e m j := by
  rw [h.mm]
  unfold pwN
  have : e / 2 ^ j = 2 * (e / 2 ^ (j + 1)) + 1 := by
    rw [Nat.pow_succ, ← Nat.div_div_eq_div_mul]; omega
  rw [this]
  generalize e / 2 ^ (j + 1) = E
  rw [Nat.pow_add x, Nat.pow_one]

set_option maxRecDepth 100000 in
set_option maxHeartbeats 8000000 in
theorem field_pow {m v ri f a root x e : Nat} (hW : Way m v ri) (hx : x < m) (he : e < B6 ^ 4) (w : World) (hF : Fd w f a m v root) :
    Calls Try.prog 89 #[.pointer (some ⟨f, 0, none⟩), .agg (num x), .agg (num e)] w fun e' w' =>
    e' = .returned (.tuple #[.agg (num (x ^ e % m)), .int .i64 0]) ∧ Chg [] w w' := by
  have hcx := fun w hF => field_check (m := m) (f := f) (x := x) hW.lt (Nat.lt_trans hx hW.lt) w hF
  rw [show chkN x m = 0 from if_pos hx] at hcx
  have hto := fun w hM => mont_to hW a x hx w hM
  have hto1 := fun w hM => mont_to hW a 1 hW.one w hM
  have hmul := fun x y hx hy w hM => mont_mul hW a x y hx hy w hM
  have hfrom := fun x hx w hM => mont_from hW a x hx w hM
  have hbit := fun i hi w => limb_bit0 e i hi w
  have hlt : ∀ z, z % m < m := fun z => Nat.mod_lt _ (by have := hW.one; omega)
  have h1 : num 1 = #[.int .u64 1, .int .u64 0, .int .u64 0, .int .u64 0] := by
    unfold num limbs
    rw [lm_one, lm_one, lm_one, show lm 1 0 = 1 from rfl]
    rfl
  rw [h1, Nat.one_mul] at hto1
  obtain ⟨xm, hxm⟩ : ∃ xm, x * B6 ^ 4 % m = xm := ⟨_, rfl⟩
  obtain ⟨om, hom⟩ : ∃ om, B6 ^ 4 % m = om := ⟨_, rfl⟩
  rw [hxm] at hto
  rw [hom] at hto1
  unfold num limbs at hcx hto hto1 hmul hfrom hbit
  have HCx := Lib.hid hcx; have HTo := Lib.hid hto; have HTo1 := Lib.hid hto1; have HMul := Lib.hid hmul; have HFrom := Lib.hid hfrom; have HBit := Lib.hid hbit; have HLt := Lib.hid hlt; have HWay := Lib.hid hW; have HE := Lib.hid he; have HXm := Lib.hid hxm; have HOm := Lib.hid hom
  clear hcx hto hto1 hmul hfrom hbit hlt h1 hW he hx hxm hom
  obtain ⟨W0, hW0⟩ : ∃ W0, ((w.alloc (.cells #[.int .u64 (lm x 0 : Nat), .int .u64 (lm x 1 : Nat), .int .u64 (lm x 2 : Nat), .int .u64 (lm x 3 : Nat)] 24)).alloc (.cells #[.int .u64 (lm e 0 : Nat), .int .u64 (lm e 1 : Nat), .int .u64 (lm e 2 : Nat), .int .u64 (lm e 3 : Nat)] 24)).alloc (.cells #[.int .u64 0, .int .u64 0, .int .u64 0, .int .u64 0] 24) = W0 := ⟨_, rfl⟩
  have uX : U4 W0 w.heap.size 24 (lm x) := by rw [← hW0]; exact has_alloc (has_alloc (has_alloc_new _ _))
  have uE : U4 W0 (w.heap.size + 1) 24 (lm e) := by rw [← hW0]; exact has_alloc (has_alloc_at (by simp))
  have uR : U4 W0 (w.heap.size + 1 + 1) 24 (fun _ => 0) := by rw [← hW0]; exact has_alloc_at (by simp)
  have hC0 : Chg [] w W0 := by rw [← hW0]; exact (((Chg.refl _ _).alloc _).alloc _).alloc _
  have hF0 := hF.ch hC0
  have hfl := lt_of_has hF.1
  obtain ⟨x0, x1, x2, x3⟩ := four4 fun _ => (uX).cell
  have HX := Lib.hid uX; have HE4 := Lib.hid uE
  have HR := Lib.hid uR; have HC0 := Lib.hid hC0; have HF0 := Lib.hid hF0
  unfold num limbs
  clear uX uE uR hC0 hF0 hF
  go_enter Try.func89, Try.ntmps89
  go_wp2_with fail
  try rw [hW0]
  clear hW0
  obtain ⟨P, hP⟩ : ∃ P, w.heap.size = P := ⟨_, rfl⟩
  rw [hP] at HX HE4 HR hfl x0 x1 x2 x3 ⊢
  refine (HCx.out _ HF0.out.m4).mono ?_
  rintro e' w1 ⟨rfl, hC1⟩
  have uX := HX.out.chg hC1 nmN
  have hF1 := HF0.out.ch hC1
  clear x0 x1 x2 x3
  obtain ⟨x0, x1, x2, x3⟩ := four4 fun _ => (uX).cell
  have p0 := hF1.way
  have HE1 := Lib.hid (HE4.out.chg hC1 nmN); have HR1 := Lib.hid (HR.out.chg hC1 nmN); have HF1 := Lib.hid hF1; have HC1 := Lib.hid (HC0.out.trans hC1)
  clear HX HE4 HR HF0 HC0 hC1 uX hF1
  go_upto_region 4 with fail
  go_cut [9, 10] from 21 to 29 (fun cv lv wx => ∃ cb, cv = .pointer (some ⟨cb, 0, none⟩) ∧ lv = .int .i64 0 ∧ U4 wx cb 24 (lm (xm)) ∧ Chg [] w1 wx)
  case first =>
    have hlt0 : P < w1.heap.size := World.block_lt_of_cell? _ _ x0
    have hlt1 : f < w1.heap.size := World.block_lt_of_cell? _ _ p0
    have HC4 := Lib.hid (Chg.refl [] w1)
    have H9x0 := Lib.hid x0; have H9x1 := Lib.hid x1; have H9x2 := Lib.hid x2; have H9x3 := Lib.hid x3; have H9p0 := Lib.hid p0
    go_region_held3 (fun w9 => w9.cell? ⟨P, 0, none⟩ = some (.int .u64 (lm x 0 : Nat)) ∧ w9.cell? ⟨P, 1, none⟩ = some (.int .u64 (lm x 1 : Nat)) ∧ w9.cell? ⟨P, 2, none⟩ = some (.int .u64 (lm x 2 : Nat)) ∧ w9.cell? ⟨P, 3, none⟩ = some (.int .u64 (lm x 3 : Nat)) ∧ w9.cell? ⟨f, 4, none⟩ = some (.pointer (some ⟨a, 0, none⟩)))
      (first | with_reducible exact ⟨x0, x1, x2, x3, p0⟩ | with_reducible exact ⟨cell_put4 x0 (Nat.ne_of_lt (Nat.lt_of_lt_of_le hlt0 HGE.out)), cell_put4 x1 (Nat.ne_of_lt (Nat.lt_of_lt_of_le hlt0 HGE.out)), cell_put4 x2 (Nat.ne_of_lt (Nat.lt_of_lt_of_le hlt0 HGE.out)), cell_put4 x3 (Nat.ne_of_lt (Nat.lt_of_lt_of_le hlt0 HGE.out)), cell_put4 p0 (Nat.ne_of_lt (Nat.lt_of_lt_of_le hlt1 HGE.out))⟩ | go_keep)
      (first | (go_at_call 66; go_loud (refine (HTo.out _ (HF1.out.2.chg (by repeat (with_reducible first | exact HC4.out | exact Chg.refl _ _ | apply Chg.drew | apply Chg.drewN | apply Chg.alloc)) nmN)).mono ?_; rintro e w3 ⟨rfl, hC3⟩; have hC4 := Chg.trans (S := []) (a := w1) (by repeat (with_reducible first | exact HC4.out | apply Chg.drew | apply Chg.drewN | apply Chg.alloc)) hC3; (first | (with_reducible have hN3 := HN3.out.chg hC3 nmN; clear HN3; obtain ⟨n0, n1, n2, n3⟩ := four4 fun _ => (hN3).cell; have nz0 := (hN3).fz 0; have nz1 := (hN3).fz 1; have nz2 := (hN3).fz 2; have nz3 := (hN3).fz 3; have HN3 := Lib.hid hN3; clear hN3) | (with_reducible (first | have hN3 := U4.kept hC3 | have hN3 := U4.kept1 hC3 | have hN3 := U4.kept2 hC3); have HGE := Lib.hid (HC4.out.size); obtain ⟨n0, n1, n2, n3⟩ := four4 fun _ => (hN3).cell; have nz0 := (hN3).fz 0; have nz1 := (hN3).fz 1; have nz2 := (hN3).fz 2; have nz3 := (hN3).fz 3; have HN3 := Lib.hid hN3; clear hN3) | skip); have hsz := hC4.size; replace x0 := hC4.cell H9x0.out nmN; replace x1 := hC4.cell H9x1.out nmN; replace x2 := hC4.cell H9x2.out nmN; replace x3 := hC4.cell H9x3.out nmN; replace p0 := hC4.cell H9p0.out nmN; clear HC4 hC3; have HC4 := Lib.hid hC4; clear hC4)))
    all_goals (go_wp2_with fail; go_meet)
    all_goals (first | with_reducible exact ⟨_, rfl, rfl, U4.new _ _ _, HC4.out.alloc _⟩ | with_reducible exact ⟨_, rfl, rfl, U4.put_x HN3.out _, HC4.out.put_x (Or.inr HGE.out) _⟩)
  case rest =>
    obtain ⟨cb, rfl, rfl, hcb, hC3⟩ := hcut
    have HX2 := Lib.hid hcb
    have HE2 := Lib.hid (HE1.out.chg hC3 nmN); have HR2 := Lib.hid (HR1.out.chg hC3 nmN); have HF2 := Lib.hid (HF1.out.ch hC3); have HC2 := Lib.hid (HC1.out.trans hC3)
    replace p0 := hC3.cell p0 nmN
    clear x0 x1 x2 x3 hcb hC3 HE1 HR1 HF1 HC1
    go_wp2_with fail
    refine (HTo1.out _ HF2.out.2).mono ?_
    rintro e' w2 ⟨rfl, hC1⟩
    have hX3 := HX2.out.chg hC1 nmN; have hE3 := HE2.out.chg hC1 nmN; have hR3 := HR2.out.chg hC1 nmN; have hF3 := HF2.out.ch hC1; have hC3 := HC2.out.trans hC1
    have hl1 := hX3.lt; have hl2 := hE3.lt; have hl3 := hR3.lt
    have hl4 := lt_of_has hF3.1
    have hl5 := lt_of_has hF3.2
    have hl6 := hC3.size
    obtain ⟨W3, hW3⟩ : ∃ W3, w2.alloc (.cells #[.int .u64 (lm om 0 : Nat), .int .u64 (lm om 1 : Nat), .int .u64 (lm om 2 : Nat), .int .u64 (lm om 3 : Nat)] 24) = W3 := ⟨_, rfl⟩
    have hA : Chg [] w2 W3 := by rw [← hW3]; exact (Chg.refl _ _).alloc _
    have hO4 : U4 W3 w2.heap.size 24 (lm om) := by rw [← hW3]; exact has_alloc_new _ _
    obtain ⟨B, hB⟩ : ∃ B, w2.heap.size = B := ⟨_, rfl⟩
    have HX4 := Lib.hid (hX3.chg hA nmN); have HE4 := Lib.hid (hE3.chg hA nmN); have HR4 := Lib.hid (hR3.chg hA nmN); have HF4 := Lib.hid (hF3.ch hA); have HC4 := Lib.hid (hC3.trans hA)
    rw [hB] at hO4 hl1 hl2 hl3 hl4 hl5 hl6
    have HO4 := Lib.hid hO4
    clear hO4 hA hX3 hE3 hR3 hF3 hC3 hC1 HX2 HE2 HR2 HF2 HC2 p0
    go_wp2_with fail
    try rw [hW3]
    try rw [hB]
    clear hW3 hB
    go_loopw [13] (fun i wr => ∃ n : Nat, n ≤ 256 ∧ i = .int .i64 ((n : Int) - 1) ∧ U4 wr B 24 (lm (pwN x e m n)) ∧ Chg [B] W3 wr) (fun i _ => (intOf i + 1).toNat)
    case atStart =>
      refine ⟨256, by omega, rfl, HO4.out.same fun k _ => ?_, Chg.refl _ _⟩
      unfold pwN
      rw [Nat.div_eq_of_lt (show e < 2 ^ 256 from HE.out), Nat.pow_zero, Nat.one_mul, HOm.out]
    case round =>
      obtain ⟨n, hn, rfl, hR, hC⟩ := hrel
      by_cases hn0 : n = 0
      · subst hn0
        obtain ⟨q, hqe⟩ : ∃ q, pwN x e m 0 = q := ⟨_, rfl⟩
        have hqm : q < m := by rw [← hqe]; exact HLt.out _
        rw [hqe] at hR
        have hfr := fun w hM => HFrom.out q hqm w hM
        have hz : q * ri % m = x ^ e % m := by
          rw [← hqe]; unfold pwN
          rw [Nat.pow_zero, Nat.div_one, HWay.out.mf]
        rw [hz] at hfr
        obtain ⟨z, hze⟩ : ∃ z, x ^ e % m = z := ⟨_, rfl⟩
        rw [hze] at hfr
        have hF5 := HF4.out.chg hC (by simp; omega) (by simp; omega)
        have hR5 := HR4.out.chg hC (by simp; omega)
        have hC5 := HC4.out.trans_new hC (by simp; omega)
        have p0 := hF5.way
        obtain ⟨r0, r1, r2, r3⟩ := four4 fun _ => (hR).cell
        obtain ⟨q0, q1, q2, q3⟩ := four4 fun _ => (hR5).cell
        have qz0 := (hR5).fz 0; have qz1 := (hR5).fz 1; have qz2 := (hR5).fz 2; have qz3 := (hR5).fz 3
        have hll := hR5.lt
        have HFr := Lib.hid hfr; have HZ := Lib.hid hze; have HF5 := Lib.hid hF5; have HR5 := Lib.hid hR5; have HC5 := Lib.hid hC5
        clear hfr hze hz hF5 hR5 hC5 hR hC hqe hqm
        have hne1 : ¬ B = P + 1 + 1 := by omega
        have hne2 : ¬ f = P + 1 + 1 := by omega
        go_wp2_with fail
        go_region_held3 (fun w9 => w9.cell? ⟨B, 0, none⟩ = some (.int .u64 (lm q 0 : Nat)) ∧ w9.cell? ⟨B, 1, none⟩ = some (.int .u64 (lm q 1 : Nat)) ∧ w9.cell? ⟨B, 2, none⟩ = some (.int .u64 (lm q 2 : Nat)) ∧ w9.cell? ⟨B, 3, none⟩ = some (.int .u64 (lm q 3 : Nat)) ∧ w9.cell? ⟨f, 4, none⟩ = some (.pointer (some ⟨a, 0, none⟩)))
          (first | with_reducible exact ⟨r0, r1, r2, r3, p0⟩ | with_reducible exact ⟨cell_put4 r0 hne1, cell_put4 r1 hne1, cell_put4 r2 hne1, cell_put4 r3 hne1, cell_put4 p0 hne2⟩ | go_keep)
          (first | (go_at_call 67; go_loud (refine (HFr.out _ (HF5.out.2.chg (by repeat (with_reducible first | exact Chg.refl _ _ | apply Chg.drew | apply Chg.drewN)) nmN)).mono ?_; rintro e9 w9 ⟨rfl, hC9⟩; have hC10 : Chg [] wr w9 := Chg.trans (by repeat (with_reducible first | exact Chg.refl _ _ | apply Chg.drew | apply Chg.drewN)) hC9; replace r0 := hC10.cell r0 nmN; replace r1 := hC10.cell r1 nmN; replace r2 := hC10.cell r2 nmN; replace r3 := hC10.cell r3 nmN; replace p0 := hC10.cell p0 nmN; have hR9 := HR5.out.chg hC10 nmN; clear q0 q1 q2 q3 qz0 qz1 qz2 qz3 hC9; obtain ⟨q0, q1, q2, q3⟩ := four4 fun _ => (hR9).cell; have qz0 := (hR9).fz 0; have qz1 := (hR9).fz 1; have qz2 := (hR9).fz 2; have qz3 := (hR9).fz 3; have hll9 := hR9.lt; have HR9 := Lib.hid hR9; have HC9 := Lib.hid (HC5.out.trans hC10); clear hR9 hC10)))
        go_wp2_with fail
        have hF := HR9.out.put (lm z)
        have hCF := HC9.out.put4 (b := P + 1 + 1) (Or.inr (by omega)) (lm z)
        refine (id ?_ : bodyPost _ _ _ _ _ (put4 w9 (P + 1 + 1) (lm z)))
        generalize put4 w9 (P + 1 + 1) (lm z) = W5 at *
        obtain ⟨g0, g1, g2, g3⟩ := four4 fun _ => (hF).cell
        exact bodyPost_ret (v := .tuple #[.agg (num z), .int .i64 0]) (by simp [results, Try.results89, go_sem, num, limbs, g0, g1, g2, g3]) rfl ⟨by rw [← HZ.out]; rfl, hCF⟩
      · obtain ⟨j, rfl⟩ : ∃ j, n = j + 1 := ⟨n - 1, by omega⟩
        have e0 : ((j + 1 : Nat) : Int) - 1 = (j : Nat) := by omega
        rw [e0]
        clear e0 hn0
        have hsq := pw_sq HWay.out x e j
        have hq : ∃ q, q < m ∧ pwN x e m (j + 1) = q := ⟨_, HLt.out _, rfl⟩
        obtain ⟨q, hqm, hqe⟩ := hq
        rw [hqe] at hsq hR
        have hF5 := HF4.out.chg hC (by simp; omega) (by simp; omega)
        have hX5 := HX4.out.chg hC (by simp; omega)
        have hE5 := HE4.out.chg hC (by simp; omega)
        have p0 := hF5.way
        obtain ⟨r0, r1, r2, r3⟩ := four4 fun _ => (hR).cell
        have rz0 := (hR).fz 0; have rz1 := (hR).fz 1; have rz2 := (hR).fz 2; have rz3 := (hR).fz 3
        have hll := hR.lt
        have hmul := fun w hM => HMul.out q q hqm hqm w hM
        rw [hsq] at hmul
        have hq2 : x ^ (2 * (e / 2 ^ (j + 1))) * B6 ^ 4 % m < m := HLt.out _
        have hb0 := fun h => pw_bit0 (x := x) (e := e) (m := m) (j := j) h
        have hb1 := fun h => pw_bit1 HWay.out (x := x) (e := e) (j := j) h
        obtain ⟨q2, hq2e⟩ : ∃ q2, x ^ (2 * (e / 2 ^ (j + 1))) * B6 ^ 4 % m = q2 := ⟨_, rfl⟩
        rw [hq2e] at hmul hq2 hb0
        rw [hq2e, HXm.out] at hb1
        have HMq := Lib.hid hmul; have HQ2 := Lib.hid hq2; have HB0 := Lib.hid hb0; have HB1 := Lib.hid hb1; have HR5 := Lib.hid hR; have HC5 := Lib.hid hC; have HF5 := Lib.hid hF5; have HX5 := Lib.hid hX5; have HE5 := Lib.hid hE5
        clear hmul hq2 hb0 hb1 hR hC hF5 hX5 hE5 hsq hqe hqm hq2e
        go_upto_region 9 with fail
        go_cut [] from 43 to 52 (fun wx => U4 wx B 24 (lm q2) ∧ Chg [B] wr wx)
        case first =>
          go_region_with (go_at_call 69; go_loud (refine (HMq.out _ (HF5.out.2.chg (by repeat (with_reducible first | exact Chg.refl _ _ | apply Chg.drew | apply Chg.drewN)) nmN)).mono ?_; rintro e9 w9 ⟨rfl, hC9⟩; have hC10 : Chg [] wr w9 := Chg.trans (by repeat (with_reducible first | exact Chg.refl _ _ | apply Chg.drew | apply Chg.drewN)) hC9; have hR9 := HR5.out.chg hC10 nmN; clear r0 r1 r2 r3 rz0 rz1 rz2 rz3 p0 hC9; obtain ⟨r0, r1, r2, r3⟩ := four4 fun _ => (hR9).cell; have rz0 := (hR9).fz 0; have rz1 := (hR9).fz 1; have rz2 := (hR9).fz 2; have rz3 := (hR9).fz 3; have hll9 := hR9.lt; have HR9 := Lib.hid hR9; have HC10 := Lib.hid hC10; clear hR9 hC10))
          all_goals (go_wp2_with fail; go_meet)
          all_goals exact ⟨U4.put_x HR9.out _, (HC10.out.mono (by simp)).put_x (Or.inl (by simp)) _⟩
        case rest =>
          obtain ⟨hR6, hC6⟩ := hcut
          have hE6 := HE5.out.chg hC6 (by simp; omega)
          clear r0 r1 r2 r3 rz0 rz1 rz2 rz3 p0
          obtain ⟨e0, e1, e2, e3⟩ := four4 fun _ => (hE6).cell
          have hF6 := HF5.out.chg hC6 (by simp; omega) (by simp; omega)
          have HX6 := Lib.hid (HX5.out.chg hC6 (by simp; omega)); have HF6 := Lib.hid hF6; have HR6 := Lib.hid hR6; have HC6 := Lib.hid (HC5.out.trans hC6); have HE6 := Lib.hid hE6
          clear hE6 hF6 hC6 hR6 HF5 HX5 HR5 HC5 HE5 HMq
          have hbit := fun w => HBit.out j (by omega) w
          obtain ⟨bt, hbt⟩ : ∃ bt, e / 2 ^ j % 2 = bt := ⟨_, rfl⟩
          have hbt1 : bt = 0 ∨ bt = 1 := by omega
          rw [hbt] at hbit HB0 HB1
          have HBi := Lib.hid hbit
          clear hbit hbt
          go_wp2_with fail
          refine (HBi.out _).mono ?_
          rintro e' w7 ⟨rfl, hC7⟩
          have hF7 := HF6.out.ch hC7
          have hR7 := HR6.out.chg hC7 nmN
          have hX7 := HX6.out.chg hC7 nmN
          have hC8 := HC6.out.trans (hC7.mono (by simp))
          have hll7 := hR7.lt
          clear e0 e1 e2 e3 hC7 HF6 HR6 HX6 HC6 HE6 HBi
          rcases hbt1 with rfl | rfl
          · have h0 := HB0.out rfl
            rw [h0] at hR7
            have HR7 := Lib.hid hR7; have HC8 := Lib.hid hC8
            clear hR7 hC8 h0 HB0 HB1 hF7 hX7
            go_wp2_with fail
            exact ⟨⟨j, by omega, by first | rfl | go_num, HR7.out, HC8.out⟩, by simp [intOf]⟩
          · have h1 := HB1.out rfl
            have hmul := fun w hM => HMul.out q2 xm HQ2.out (by rw [← HXm.out]; exact HLt.out _) w hM
            rw [h1] at hmul
            have p0 := hF7.way
            obtain ⟨r0, r1, r2, r3⟩ := four4 fun _ => (hR7).cell
            have rz0 := (hR7).fz 0; have rz1 := (hR7).fz 1; have rz2 := (hR7).fz 2; have rz3 := (hR7).fz 3
            obtain ⟨x0, x1, x2, x3⟩ := four4 fun _ => (hX7).cell
            have HMq := Lib.hid hmul; have HR7 := Lib.hid hR7; have HC8 := Lib.hid hC8; have HF7 := Lib.hid hF7
            clear hmul hR7 hC8 h1 HB0 HB1 hF7 hX7
            obtain ⟨q3, hq3⟩ : ∃ q3, pwN x e m j = q3 := ⟨_, rfl⟩
            rw [hq3] at HMq
            have HQ3 := Lib.hid hq3
            clear hq3
            go_upto_region 11 with fail
            go_region_with (go_at_call 69; go_loud (refine (HMq.out _ (HF7.out.2.chg (by repeat (with_reducible first | exact Chg.refl _ _ | apply Chg.drew | apply Chg.drewN)) nmN)).mono ?_; rintro e9 w9 ⟨rfl, hC9⟩; have hC10 : Chg [] w7 w9 := Chg.trans (by repeat (with_reducible first | exact Chg.refl _ _ | apply Chg.drew | apply Chg.drewN)) hC9; have hR9 := HR7.out.chg hC10 nmN; clear r0 r1 r2 r3 rz0 rz1 rz2 rz3 p0 hC9; obtain ⟨r0, r1, r2, r3⟩ := four4 fun _ => (hR9).cell; have rz0 := (hR9).fz 0; have rz1 := (hR9).fz 1; have rz2 := (hR9).fz 2; have rz3 := (hR9).fz 3; have hll9 := hR9.lt; have HR9 := Lib.hid hR9; have HC10 := Lib.hid hC10; clear hR9 hC10))
            all_goals (
              have hR6 := U4.put_x HR9.out q3
              rw [← HQ3.out] at hR6
              have HR6 := Lib.hid hR6
              have HC6 := Lib.hid ((HC8.out.trans (HC10.out.mono (by simp))).put_x (b := B) (Or.inl (by simp)) q3)
              clear hR6
              go_wp2_with fail
              exact ⟨⟨j, by omega, by first | rfl | go_num, by rw [HQ3.out] at HR6; rw [HQ3.out]; exact HR6.out, HC6.out⟩, by simp [intOf]⟩)

end Go.Proofs.Ytplldbmjdnikeaa

/- The walk of field.Field.Inv. -/
namespace Go.Proofs.Ytplldbmjdnikeaa
set_option linter.unusedVariables false
set_option linter.unusedSimpArgs false
open Go.RowKit

theorem lm_two (k : Nat) : lm 2 (k + 1) = 0 := by
  unfold lm
  rw [Nat.div_eq_of_lt, Nat.zero_mod]
  have : B6 ^ 1 ≤ B6 ^ (k + 1) := Nat.pow_le_pow_right (by decide) (by omega)
  have h2 : 2 < B6 ^ 1 := by decide
  omega
theorem num_two : num 2 = #[.int .u64 2, .int .u64 0, .int .u64 0, .int .u64 0] := by
  unfold num limbs
  rw [lm_two, lm_two, lm_two, show lm 2 0 = 2 from rfl]
  rfl

set_option maxRecDepth 100000 in
set_option maxHeartbeats 4000000 in
theorem field_inv {m v ri f a root x : Nat} (hW : Way m v ri) (hm2 : 2 < m) (hx : x < m) (h0 : 0 < x) (w : World) (hF : Fd w f a m v root) :
    Calls Try.prog 68 #[.pointer (some ⟨f, 0, none⟩), .agg (num x)] w fun e' w' =>
    e' = .returned (.tuple #[.agg (num (x ^ (m - 2) % m)), .int .i64 0]) ∧ Chg [] w w' := by
  have hcx := fun w hF => field_check (m := m) (f := f) (x := x) hW.lt (Nat.lt_trans hx hW.lt) w hF
  rw [show chkN x m = 0 from if_pos hx] at hcx
  have hz := fun w => num_eq0 (Nat.lt_trans hx hW.lt) w
  rw [show decide (x = 0) = false by simp; omega] at hz
  have hsub := fun w => limb_sub m 2 (by decide) w
  have he : num (m + B6 ^ 4 - 2) = num (m - 2) := by
    rw [← num_top (m - 2)]; congr 1; omega
  rw [he, num_two] at hsub
  have hpow := fun w hF => field_pow (root := root) hW hx (e := m - 2) (f := f) (a := a) (by have := hW.lt; omega) w hF
  obtain ⟨z, hze⟩ : ∃ z, x ^ (m - 2) % m = z := ⟨_, rfl⟩
  rw [hze] at hpow ⊢
  obtain ⟨d, hd⟩ : ∃ d, m - 2 = d := ⟨_, rfl⟩
  rw [hd] at hpow hsub
  obtain ⟨c, hc⟩ : ∃ c : Nat, bor m 2 4 = c := ⟨_, rfl⟩
  rw [hc] at hsub
  unfold num limbs at hcx hsub hpow
  have HCx := Lib.hid hcx; have HSub := Lib.hid hsub; have HPow := Lib.hid hpow
  clear hcx hsub hpow he hze hd hc hx h0 hW hm2
  obtain ⟨W0, hW0⟩ : ∃ W0, (w.alloc (.cells #[.int .u64 (lm x 0 : Nat), .int .u64 (lm x 1 : Nat), .int .u64 (lm x 2 : Nat), .int .u64 (lm x 3 : Nat)] 24)).alloc (.cells #[.int .u64 0, .int .u64 0, .int .u64 0, .int .u64 0] 24) = W0 := ⟨_, rfl⟩
  have uX : U4 W0 w.heap.size 24 (lm x) := by rw [← hW0]; exact has_alloc (has_alloc_new _ _)
  have uR : U4 W0 (w.heap.size + 1) 24 (fun _ => 0) := by rw [← hW0]; exact has_alloc_at (by simp)
  have hC0 : Chg [] w W0 := by rw [← hW0]; exact ((Chg.refl _ _).alloc _).alloc _
  have hF0 := hF.ch hC0
  obtain ⟨x0, x1, x2, x3⟩ := four4 fun _ => (uX).cell
  have HX := Lib.hid uX
  have HR := Lib.hid uR; have HC0 := Lib.hid hC0; have HF0 := Lib.hid hF0
  unfold num limbs
  clear uX uR hC0 hF0 hF
  go_enter Try.func68, Try.ntmps68
  go_wp2_with fail
  try rw [hW0]
  clear hW0
  obtain ⟨P, hP⟩ : ∃ P, w.heap.size = P := ⟨_, rfl⟩
  rw [hP] at HX HR x0 x1 x2 x3 ⊢
  refine (HCx.out _ HF0.out.m4).mono ?_
  rintro e' w1 ⟨rfl, hC1⟩
  have uX := HX.out.chg hC1 nmN
  have hF1 := HF0.out.ch hC1
  have hm4 := hF1.m4
  clear x0 x1 x2 x3
  obtain ⟨x0, x1, x2, x3⟩ := four4 fun _ => (uX).cell
  obtain ⟨m0, m1, m2, m3⟩ := four4 fun _ => (hm4).cell
  have HX1 := Lib.hid uX; have HR1 := Lib.hid (HR.out.chg hC1 nmN); have HF1 := Lib.hid hF1; have HC1 := Lib.hid (HC0.out.trans hC1)
  clear HX HR HF0 HC0 hC1 uX hF1 hm4
  go_wp2_with fail
  refine (HSub.out _).mono ?_
  rintro e' w2 ⟨rfl, hC1⟩
  have uX := HX1.out.chg hC1 nmN
  have HR2 := Lib.hid (HR1.out.chg hC1 nmN); have HF2 := Lib.hid (HF1.out.ch hC1); have HC2 := Lib.hid (HC1.out.trans hC1)
  clear x0 x1 x2 x3 m0 m1 m2 m3 hz HX1 HR1 HF1 HC1 hC1
  obtain ⟨x0, x1, x2, x3⟩ := four4 fun _ => (uX).cell
  have hxl := uX.lt
  clear uX
  go_wp2_with fail
  refine (HPow.out _ (HF2.out.ch ((Chg.refl _ _).alloc _))).mono ?_
  rintro e' w3 ⟨rfl, hC1⟩
  have hC2 : Chg [] w2 w3 := ((Chg.refl _ _).alloc _).trans hC1
  have hR9 := HR2.out.chg hC2 nmN; have hC9 := HC2.out.trans hC2
  have hll := hR9.lt
  clear x0 x1 x2 x3 HR2 HF2 HC2 hC1 hC2
  obtain ⟨q0, q1, q2, q3⟩ := four4 fun _ => (hR9).cell
  have qz0 := (hR9).fz 0; have qz1 := (hR9).fz 1; have qz2 := (hR9).fz 2; have qz3 := (hR9).fz 3
  have HF := Lib.hid (hR9.put (lm z)); have HCF := Lib.hid (hC9.put4 (b := P + 1) (Or.inr (by omega)) (lm z))
  clear hR9 hC9
  go_wp2_with fail
  have hF := HF.out
  have hCF := HCF.out
  refine (id ?_ : bodyPost _ _ _ _ _ (put4 w3 (P + 1) (lm z)))
  clear HF HCF
  generalize put4 w3 (P + 1) (lm z) = W5 at *
  obtain ⟨g0, g1, g2, g3⟩ := four4 fun _ => (hF).cell
  exact bodyPost_ret (v := .tuple #[.agg (num z), .int .i64 0]) (by simp [results, Try.results68, go_sem, num, limbs, g0, g1, g2, g3]) rfl ⟨rfl, hCF⟩

end Go.Proofs.Ytplldbmjdnikeaa
