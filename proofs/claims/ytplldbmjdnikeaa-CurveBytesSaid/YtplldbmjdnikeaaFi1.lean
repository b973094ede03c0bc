import Derived.Test.YtplldbmjdnikeaaLb3
import Derived.Test.YtplldbmjdnikeaaGr

/- Sums and differences by a modulus: the walks of field.Field.plus, minus; curve.plane.add, sub. Printed by arith.py. -/
namespace Go.Proofs.Ytplldbmjdnikeaa
set_option linter.unusedVariables false
set_option linter.unusedSimpArgs false
open Go.RowKit

/-- The number m at offset o of block f. -/
def M4 (w : World) (f o m : Nat) : Prop := ∀ i, i < 4 → w.cell? ⟨f, o + i, none⟩ = some (.int .u64 (lm m i : Nat))
theorem M4.chg {S : List Nat} {w w' : World} {f o m : Nat} (h : M4 w f o m) (hc : Chg S w w') (hs : f ∉ S) : M4 w' f o m := fun i hi => hc.cell (h i hi) hs
theorem M4.cell {w : World} {f o m : Nat} (h : M4 w f o m) {k : Nat} (hk : k < 4) : w.cell? ⟨f, o + k, none⟩ = some (.int .u64 (lm m k : Nat)) := h k hk

set_option maxRecDepth 100000 in
set_option maxHeartbeats 4000000 in
theorem field_plus {m f x y : Nat} (hm : m < B6 ^ 4) (hx : x < m) (hy : y < m) (w : World) (hF : M4 w f 0 m) :
    Calls Try.prog 56 #[.pointer (some ⟨f, 0, none⟩), .agg (num x), .agg (num y)] w fun e w' =>
    e = .returned (.agg (num ((x + y) % m))) ∧ Chg [] w w' := by
  obtain ⟨z, hz⟩ : ∃ z, (x + y) % m = z := ⟨_, rfl⟩
  rw [hz]
  have hadd := fun w => limb_add x y w
  have hc : cry x y 4 = (x + y) / B6 ^ 4 := by
    unfold cry
    rw [Nat.mod_eq_of_lt (by omega), Nat.mod_eq_of_lt (by omega)]
  rw [hc] at hadd
  obtain ⟨t, ht⟩ : ∃ t, x + y = t := ⟨_, rfl⟩
  rw [ht] at hadd hz
  obtain ⟨top, htop⟩ : ∃ top, t / B6 ^ 4 = top := ⟨_, rfl⟩
  rw [htop] at hadd
  obtain ⟨l, n, bit, s1, s2, s3, s4, s5, s6⟩ := sel_red (t := t) (m := m) (r := t % B6 ^ 4) (top := top) (by rw [← htop, Nat.mul_comm, Nat.mod_add_div]) (Nat.mod_lt _ (by decide)) (by omega) hm (by
    rw [← htop]; simp only [B6] at *; omega)
  have hsub := fun w => limb_sub0 (t % B6 ^ 4) m _ rfl (by omega) w
  rw [num_mod, s1] at hsub
  obtain ⟨d, hd⟩ : ∃ d, t % B6 ^ 4 + B6 ^ 4 - m = d := ⟨_, rfl⟩
  rw [hd] at hsub s6
  have hsel := fun w => limb_select bit s5 d (t % B6 ^ 4) w
  rw [s6, num_mod, hz] at hsel
  unfold num limbs at hadd hsub hsel
  have HAdd := Lib.hid hadd; have HSub := Lib.hid hsub; have HSel := Lib.hid hsel; have HS3 := Lib.hid s3; have HS4 := Lib.hid s4
  clear hadd hsub hsel s1 s2 s3 s4 s5 s6 hd htop ht hz hc hx hy hm
  obtain ⟨W0, hW0⟩ : ∃ W0, ((w.alloc (.cells #[.int .u64 (lm x 0 : Nat), .int .u64 (lm x 1 : Nat), .int .u64 (lm x 2 : Nat), .int .u64 (lm x 3 : Nat)] 24)).alloc (.cells #[.int .u64 (lm y 0 : Nat), .int .u64 (lm y 1 : Nat), .int .u64 (lm y 2 : Nat), .int .u64 (lm y 3 : Nat)] 24)).alloc (.cells #[.int .u64 0, .int .u64 0, .int .u64 0, .int .u64 0] 24) = W0 := ⟨_, rfl⟩
  have uX : U4 W0 w.heap.size 24 (lm x) := by rw [← hW0]; exact has_alloc (has_alloc (has_alloc_new _ _))
  have uY : U4 W0 (w.heap.size + 1) 24 (lm y) := by rw [← hW0]; exact has_alloc (has_alloc_at (by simp))
  have uR : U4 W0 (w.heap.size + 1 + 1) 24 (fun _ => 0) := by rw [← hW0]; exact has_alloc_at (by simp)
  have hC0 : Chg [] w W0 := by rw [← hW0]; exact (((Chg.refl _ _).alloc _).alloc _).alloc _
  have hF0 := hF.chg hC0 nmN
  obtain ⟨x0, x1, x2, x3⟩ := four4 fun _ => (uX).cell
  obtain ⟨y0, y1, y2, y3⟩ := four4 fun _ => (uY).cell
  have HR := Lib.hid uR; have HC0 := Lib.hid hC0; have HF0 := Lib.hid hF0
  unfold num limbs
  clear uX uY uR hC0 hF0 hF
  go_enter Try.func56, Try.ntmps56
  go_wp2_with fail
  try rw [hW0]
  clear hW0
  obtain ⟨P, hP⟩ : ∃ P, w.heap.size = P := ⟨_, rfl⟩
  rw [hP] at HR x0 x1 x2 x3 y0 y1 y2 y3 ⊢
  refine (HAdd.out _).mono ?_
  rintro e w1 ⟨rfl, hC1⟩
  have hR1 := HR.out.chg hC1 nmN
  have hF1 := HF0.out.chg hC1 nmN
  have hC2 := HC0.out.trans hC1
  clear x0 x1 x2 x3 y0 y1 y2 y3 HR HC0 HF0 hC1
  obtain ⟨W1, hW1⟩ : ∃ W1, w1.alloc (.cells #[.int .u64 (lm t 0 : Nat), .int .u64 (lm t 1 : Nat), .int .u64 (lm t 2 : Nat), .int .u64 (lm t 3 : Nat)] 24) = W1 := ⟨_, rfl⟩
  have hS2 : U4 W1 w1.heap.size 24 (lm t) := by rw [← hW1]; exact has_alloc_new _ _
  have hA1 : Chg [] w1 W1 := by rw [← hW1]; exact (Chg.refl _ _).alloc _
  have hF2 := hF1.chg hA1 nmN
  have hR2 := hR1.chg hA1 nmN
  have hC3 := hC2.trans hA1
  obtain ⟨B, hB⟩ : ∃ B, w1.heap.size = B := ⟨_, rfl⟩
  rw [hB] at hS2
  obtain ⟨s0, s1, s2, s3⟩ := four4 fun _ => (hS2).cell
  obtain ⟨m0, m1, m2, m3⟩ := four4 fun _ => (hF2).cell
  have HS2 := Lib.hid hS2; have HR2 := Lib.hid hR2; have HC2 := Lib.hid hC3
  clear hF1 hF2 hR1 hR2 hC2 hC3 hA1 hS2
  go_upto_region 2 with fail
  try rw [hW1]
  try rw [hB]
  clear hW1 hB
  go_upto_region 2 with fail
  go_cut [9, 10] from 17 to 25 (fun cv lv wx => ∃ cb, cv = .pointer (some ⟨cb, 0, none⟩) ∧ lv = .int .u64 (l : Nat) ∧ U4 wx cb 24 (lm (d)) ∧ Chg [] W1 wx)
  case first =>
    have hlt0 : B < W1.heap.size := World.block_lt_of_cell? _ _ s0
    have hlt1 : f < W1.heap.size := World.block_lt_of_cell? _ _ m0
    have HC4 := Lib.hid (Chg.refl [] W1)
    have H9s0 := Lib.hid s0; have H9s1 := Lib.hid s1; have H9s2 := Lib.hid s2; have H9s3 := Lib.hid s3; have H9m0 := Lib.hid m0; have H9m1 := Lib.hid m1; have H9m2 := Lib.hid m2; have H9m3 := Lib.hid m3
    go_region_held3 (fun w9 => w9.cell? ⟨B, 0, none⟩ = some (.int .u64 (lm t 0 : Nat)) ∧ w9.cell? ⟨B, 1, none⟩ = some (.int .u64 (lm t 1 : Nat)) ∧ w9.cell? ⟨B, 2, none⟩ = some (.int .u64 (lm t 2 : Nat)) ∧ w9.cell? ⟨B, 3, none⟩ = some (.int .u64 (lm t 3 : Nat)) ∧ w9.cell? ⟨f, 0, none⟩ = some (.int .u64 (lm m 0 : Nat)) ∧ w9.cell? ⟨f, 1, none⟩ = some (.int .u64 (lm m 1 : Nat)) ∧ w9.cell? ⟨f, 2, none⟩ = some (.int .u64 (lm m 2 : Nat)) ∧ w9.cell? ⟨f, 3, none⟩ = some (.int .u64 (lm m 3 : Nat)))
      (first | with_reducible exact ⟨s0, s1, s2, s3, m0, m1, m2, m3⟩ | with_reducible exact ⟨cell_put4 s0 (Nat.ne_of_lt (Nat.lt_of_lt_of_le hlt0 HGE.out)), cell_put4 s1 (Nat.ne_of_lt (Nat.lt_of_lt_of_le hlt0 HGE.out)), cell_put4 s2 (Nat.ne_of_lt (Nat.lt_of_lt_of_le hlt0 HGE.out)), cell_put4 s3 (Nat.ne_of_lt (Nat.lt_of_lt_of_le hlt0 HGE.out)), cell_put4 m0 (Nat.ne_of_lt (Nat.lt_of_lt_of_le hlt1 HGE.out)), cell_put4 m1 (Nat.ne_of_lt (Nat.lt_of_lt_of_le hlt1 HGE.out)), cell_put4 m2 (Nat.ne_of_lt (Nat.lt_of_lt_of_le hlt1 HGE.out)), cell_put4 m3 (Nat.ne_of_lt (Nat.lt_of_lt_of_le hlt1 HGE.out))⟩ | go_keep)
      (first | (go_at_call 85; go_loud (refine (HSub.out _).mono ?_; rintro e w3 ⟨rfl, hC3⟩; have hC4 := Chg.trans (S := []) (a := W1) (by repeat (with_reducible first | exact HC4.out | apply Chg.drew | apply Chg.drewN | apply Chg.alloc)) hC3; (first | (with_reducible have hN3 := HN3.out.chg hC3 nmN; clear HN3; obtain ⟨n0, n1, n2, n3⟩ := four4 fun _ => (hN3).cell; have nz0 := (hN3).fz 0; have nz1 := (hN3).fz 1; have nz2 := (hN3).fz 2; have nz3 := (hN3).fz 3; have HN3 := Lib.hid hN3; clear hN3) | (with_reducible (first | have hN3 := U4.kept hC3 | have hN3 := U4.kept1 hC3 | have hN3 := U4.kept2 hC3); have HGE := Lib.hid (HC4.out.size); obtain ⟨n0, n1, n2, n3⟩ := four4 fun _ => (hN3).cell; have nz0 := (hN3).fz 0; have nz1 := (hN3).fz 1; have nz2 := (hN3).fz 2; have nz3 := (hN3).fz 3; have HN3 := Lib.hid hN3; clear hN3) | skip); have hsz := hC4.size; replace s0 := hC4.cell H9s0.out nmN; replace s1 := hC4.cell H9s1.out nmN; replace s2 := hC4.cell H9s2.out nmN; replace s3 := hC4.cell H9s3.out nmN; replace m0 := hC4.cell H9m0.out nmN; replace m1 := hC4.cell H9m1.out nmN; replace m2 := hC4.cell H9m2.out nmN; replace m3 := hC4.cell H9m3.out nmN; clear HC4 hC3; have HC4 := Lib.hid hC4; clear hC4)))
    all_goals (go_wp2_with fail; go_meet)
    all_goals (first | with_reducible exact ⟨_, rfl, rfl, U4.new _ _ _, HC4.out.alloc _⟩ | with_reducible exact ⟨_, rfl, rfl, U4.put_x HN3.out _, HC4.out.put_x (Or.inr HGE.out) _⟩)
  case rest =>
    obtain ⟨cb, rfl, rfl, hcb, hC3⟩ := hcut
    clear s0 s1 s2 s3 m0 m1 m2 m3
    have hS3 := HS2.out.chg hC3 nmN
    have hR3 := HR2.out.chg hC3 nmN
    have hC4 := HC2.out.trans hC3
    obtain ⟨d0, d1, d2, d3⟩ := four4 fun _ => (hcb).cell
    obtain ⟨s0, s1, s2, s3⟩ := four4 fun _ => (hS3).cell
    have HR3 := Lib.hid hR3; have HC3 := Lib.hid hC4
    clear hS3 hcb hR3 hC3 hC4 HS2 HR2 HC2
    have s3 := HS3.out; have s4 := HS4.out
    go_wp2_with fail
    refine (HSel.out _).mono ?_
    rintro e w4 ⟨rfl, hC4⟩
    have hR4 := HR3.out.chg hC4 nmN
    have hw4 := HC3.out.trans hC4
    have hll := hR4.lt
    obtain ⟨q0, q1, q2, q3⟩ := four4 fun _ => (hR4).cell
    have qz0 := (hR4).fz 0; have qz1 := (hR4).fz 1; have qz2 := (hR4).fz 2; have qz3 := (hR4).fz 3
    have HF := Lib.hid (hR4.put (lm z)); have HCF := Lib.hid (hw4.put4 (b := P + 1 + 1) (Or.inr (by omega)) (lm z))
    clear hR4 hw4 hC4 HR3 HC3
    go_wp2_with fail
    have hF := HF.out
    have hCF := HCF.out
    refine (id ?_ : bodyPost _ _ _ _ _ (put4 w4 (P + 1 + 1) (lm z)))
    clear HF HCF
    generalize put4 w4 (P + 1 + 1) (lm z) = W5 at *
    obtain ⟨g0, g1, g2, g3⟩ := four4 fun _ => (hF).cell
    exact bodyPost_ret (v := .agg (num z)) (by simp [results, Try.results56, go_sem, num, limbs, g0, g1, g2, g3]) rfl ⟨rfl, hCF⟩

set_option maxRecDepth 100000 in
set_option maxHeartbeats 4000000 in
theorem field_minus {m f x y : Nat} (hm : m < B6 ^ 4) (hx : x < m) (hy : y < m) (w : World) (hF : M4 w f 0 m) :
    Calls Try.prog 87 #[.pointer (some ⟨f, 0, none⟩), .agg (num x), .agg (num y)] w fun e w' =>
    e = .returned (.agg (num ((x + m - y) % m))) ∧ Chg [] w w' := by
  obtain ⟨z, hz⟩ : ∃ z, (x + m - y) % m = z := ⟨_, rfl⟩
  rw [hz]
  have hsub := fun w => limb_sub0 x y _ rfl (by omega) w
  rw [bor4 (Nat.lt_trans hx hm) (Nat.lt_trans hy hm)] at hsub
  obtain ⟨t, ht⟩ : ∃ t, x + B6 ^ 4 - y = t := ⟨_, rfl⟩
  rw [ht] at hsub
  have hadd := fun w => limb_add t m w
  obtain ⟨l, hl⟩ : ∃ l : Nat, (if x < y then 1 else 0) = l := ⟨_, rfl⟩
  rw [hl] at hsub
  have hl1 : l ≤ 1 := by rw [← hl]; split <;> omega
  have hsel := fun w => limb_select l hl1 (t + m) t w
  have hnum : num (if l = 1 then t + m else t) = num z := by
    rw [← hl, ← hz, ← ht]
    by_cases h : x < y
    · rw [if_pos h, if_pos rfl, Nat.mod_eq_of_lt (by omega), ← num_top (x + m - y)]
      congr 1
      omega
    · have e1 : x + m - y = (x - y) + m := by omega
      have e2 : x + B6 ^ 4 - y = (x - y) + B6 ^ 4 := by omega
      rw [if_neg h, if_neg (by omega), e1, e2, num_top, Nat.add_mod_right, Nat.mod_eq_of_lt (by omega)]
  rw [hnum] at hsel
  obtain ⟨d, hd⟩ : ∃ d, t + m = d := ⟨_, rfl⟩
  rw [hd] at hadd hsel
  obtain ⟨c, hc⟩ : ∃ c : Nat, cry t m 4 = c := ⟨_, rfl⟩
  rw [hc] at hadd
  unfold num limbs at hadd hsub hsel
  have HAdd := Lib.hid hadd; have HSub := Lib.hid hsub; have HSel := Lib.hid hsel
  clear hadd hsub hsel hnum hd hc hl hl1 ht hz hx hy hm
  obtain ⟨W0, hW0⟩ : ∃ W0, ((w.alloc (.cells #[.int .u64 (lm x 0 : Nat), .int .u64 (lm x 1 : Nat), .int .u64 (lm x 2 : Nat), .int .u64 (lm x 3 : Nat)] 24)).alloc (.cells #[.int .u64 (lm y 0 : Nat), .int .u64 (lm y 1 : Nat), .int .u64 (lm y 2 : Nat), .int .u64 (lm y 3 : Nat)] 24)).alloc (.cells #[.int .u64 0, .int .u64 0, .int .u64 0, .int .u64 0] 24) = W0 := ⟨_, rfl⟩
  have uX : U4 W0 w.heap.size 24 (lm x) := by rw [← hW0]; exact has_alloc (has_alloc (has_alloc_new _ _))
  have uY : U4 W0 (w.heap.size + 1) 24 (lm y) := by rw [← hW0]; exact has_alloc (has_alloc_at (by simp))
  have uR : U4 W0 (w.heap.size + 1 + 1) 24 (fun _ => 0) := by rw [← hW0]; exact has_alloc_at (by simp)
  have hC0 : Chg [] w W0 := by rw [← hW0]; exact (((Chg.refl _ _).alloc _).alloc _).alloc _
  have hF0 := hF.chg hC0 nmN
  obtain ⟨x0, x1, x2, x3⟩ := four4 fun _ => (uX).cell
  obtain ⟨y0, y1, y2, y3⟩ := four4 fun _ => (uY).cell
  have HR := Lib.hid uR; have HC0 := Lib.hid hC0; have HF0 := Lib.hid hF0
  unfold num limbs
  clear uX uY uR hC0 hF0 hF
  go_enter Try.func87, Try.ntmps87
  go_wp2_with fail
  try rw [hW0]
  clear hW0
  obtain ⟨P, hP⟩ : ∃ P, w.heap.size = P := ⟨_, rfl⟩
  rw [hP] at HR x0 x1 x2 x3 y0 y1 y2 y3 ⊢
  refine (HSub.out _).mono ?_
  rintro e w1 ⟨rfl, hC1⟩
  have hR1 := HR.out.chg hC1 nmN
  have hF1 := HF0.out.chg hC1 nmN
  have hC2 := HC0.out.trans hC1
  clear x0 x1 x2 x3 y0 y1 y2 y3 HR HC0 HF0 hC1
  obtain ⟨W1, hW1⟩ : ∃ W1, w1.alloc (.cells #[.int .u64 (lm t 0 : Nat), .int .u64 (lm t 1 : Nat), .int .u64 (lm t 2 : Nat), .int .u64 (lm t 3 : Nat)] 24) = W1 := ⟨_, rfl⟩
  have hS2 : U4 W1 w1.heap.size 24 (lm t) := by rw [← hW1]; exact has_alloc_new _ _
  have hA1 : Chg [] w1 W1 := by rw [← hW1]; exact (Chg.refl _ _).alloc _
  have hF2 := hF1.chg hA1 nmN
  have hR2 := hR1.chg hA1 nmN
  have hC3 := hC2.trans hA1
  obtain ⟨B, hB⟩ : ∃ B, w1.heap.size = B := ⟨_, rfl⟩
  rw [hB] at hS2
  obtain ⟨s0, s1, s2, s3⟩ := four4 fun _ => (hS2).cell
  obtain ⟨m0, m1, m2, m3⟩ := four4 fun _ => (hF2).cell
  have HS2 := Lib.hid hS2; have HR2 := Lib.hid hR2; have HC2 := Lib.hid hC3
  clear hF1 hF2 hR1 hR2 hC2 hC3 hA1 hS2
  go_upto_region 2 with fail
  try rw [hW1]
  try rw [hB]
  clear hW1 hB
  go_upto_region 2 with fail
  go_cut [9, 10] from 17 to 25 (fun cv lv wx => ∃ cb, cv = .pointer (some ⟨cb, 0, none⟩) ∧ lv = .int .u64 (c : Nat) ∧ U4 wx cb 24 (lm (d)) ∧ Chg [] W1 wx)
  case first =>
    have hlt0 : B < W1.heap.size := World.block_lt_of_cell? _ _ s0
    have hlt1 : f < W1.heap.size := World.block_lt_of_cell? _ _ m0
    have HC4 := Lib.hid (Chg.refl [] W1)
    have H9s0 := Lib.hid s0; have H9s1 := Lib.hid s1; have H9s2 := Lib.hid s2; have H9s3 := Lib.hid s3; have H9m0 := Lib.hid m0; have H9m1 := Lib.hid m1; have H9m2 := Lib.hid m2; have H9m3 := Lib.hid m3
    go_region_held3 (fun w9 => w9.cell? ⟨B, 0, none⟩ = some (.int .u64 (lm t 0 : Nat)) ∧ w9.cell? ⟨B, 1, none⟩ = some (.int .u64 (lm t 1 : Nat)) ∧ w9.cell? ⟨B, 2, none⟩ = some (.int .u64 (lm t 2 : Nat)) ∧ w9.cell? ⟨B, 3, none⟩ = some (.int .u64 (lm t 3 : Nat)) ∧ w9.cell? ⟨f, 0, none⟩ = some (.int .u64 (lm m 0 : Nat)) ∧ w9.cell? ⟨f, 1, none⟩ = some (.int .u64 (lm m 1 : Nat)) ∧ w9.cell? ⟨f, 2, none⟩ = some (.int .u64 (lm m 2 : Nat)) ∧ w9.cell? ⟨f, 3, none⟩ = some (.int .u64 (lm m 3 : Nat)))
      (first | with_reducible exact ⟨s0, s1, s2, s3, m0, m1, m2, m3⟩ | with_reducible exact ⟨cell_put4 s0 (Nat.ne_of_lt (Nat.lt_of_lt_of_le hlt0 HGE.out)), cell_put4 s1 (Nat.ne_of_lt (Nat.lt_of_lt_of_le hlt0 HGE.out)), cell_put4 s2 (Nat.ne_of_lt (Nat.lt_of_lt_of_le hlt0 HGE.out)), cell_put4 s3 (Nat.ne_of_lt (Nat.lt_of_lt_of_le hlt0 HGE.out)), cell_put4 m0 (Nat.ne_of_lt (Nat.lt_of_lt_of_le hlt1 HGE.out)), cell_put4 m1 (Nat.ne_of_lt (Nat.lt_of_lt_of_le hlt1 HGE.out)), cell_put4 m2 (Nat.ne_of_lt (Nat.lt_of_lt_of_le hlt1 HGE.out)), cell_put4 m3 (Nat.ne_of_lt (Nat.lt_of_lt_of_le hlt1 HGE.out))⟩ | go_keep)
      (first | (go_at_call 84; go_loud (refine (HAdd.out _).mono ?_; rintro e w3 ⟨rfl, hC3⟩; have hC4 := Chg.trans (S := []) (a := W1) (by repeat (with_reducible first | exact HC4.out | apply Chg.drew | apply Chg.drewN | apply Chg.alloc)) hC3; (first | (with_reducible have hN3 := HN3.out.chg hC3 nmN; clear HN3; obtain ⟨n0, n1, n2, n3⟩ := four4 fun _ => (hN3).cell; have nz0 := (hN3).fz 0; have nz1 := (hN3).fz 1; have nz2 := (hN3).fz 2; have nz3 := (hN3).fz 3; have HN3 := Lib.hid hN3; clear hN3) | (with_reducible (first | have hN3 := U4.kept hC3 | have hN3 := U4.kept1 hC3 | have hN3 := U4.kept2 hC3); have HGE := Lib.hid (HC4.out.size); obtain ⟨n0, n1, n2, n3⟩ := four4 fun _ => (hN3).cell; have nz0 := (hN3).fz 0; have nz1 := (hN3).fz 1; have nz2 := (hN3).fz 2; have nz3 := (hN3).fz 3; have HN3 := Lib.hid hN3; clear hN3) | skip); have hsz := hC4.size; replace s0 := hC4.cell H9s0.out nmN; replace s1 := hC4.cell H9s1.out nmN; replace s2 := hC4.cell H9s2.out nmN; replace s3 := hC4.cell H9s3.out nmN; replace m0 := hC4.cell H9m0.out nmN; replace m1 := hC4.cell H9m1.out nmN; replace m2 := hC4.cell H9m2.out nmN; replace m3 := hC4.cell H9m3.out nmN; clear HC4 hC3; have HC4 := Lib.hid hC4; clear hC4)))
    all_goals (go_wp2_with fail; go_meet)
    all_goals (first | with_reducible exact ⟨_, rfl, rfl, U4.new _ _ _, HC4.out.alloc _⟩ | with_reducible exact ⟨_, rfl, rfl, U4.put_x HN3.out _, HC4.out.put_x (Or.inr HGE.out) _⟩)
  case rest =>
    obtain ⟨cb, rfl, rfl, hcb, hC3⟩ := hcut
    clear s0 s1 s2 s3 m0 m1 m2 m3
    have hS3 := HS2.out.chg hC3 nmN
    have hR3 := HR2.out.chg hC3 nmN
    have hC4 := HC2.out.trans hC3
    obtain ⟨d0, d1, d2, d3⟩ := four4 fun _ => (hcb).cell
    obtain ⟨s0, s1, s2, s3⟩ := four4 fun _ => (hS3).cell
    have HR3 := Lib.hid hR3; have HC3 := Lib.hid hC4
    clear hS3 hcb hR3 hC3 hC4 HS2 HR2 HC2
    go_wp2_with fail
    refine (HSel.out _).mono ?_
    rintro e w4 ⟨rfl, hC4⟩
    have hR4 := HR3.out.chg hC4 nmN
    have hw4 := HC3.out.trans hC4
    have hll := hR4.lt
    obtain ⟨q0, q1, q2, q3⟩ := four4 fun _ => (hR4).cell
    have qz0 := (hR4).fz 0; have qz1 := (hR4).fz 1; have qz2 := (hR4).fz 2; have qz3 := (hR4).fz 3
    have HF := Lib.hid (hR4.put (lm z)); have HCF := Lib.hid (hw4.put4 (b := P + 1 + 1) (Or.inr (by omega)) (lm z))
    clear hR4 hw4 hC4 HR3 HC3
    go_wp2_with fail
    have hF := HF.out
    have hCF := HCF.out
    refine (id ?_ : bodyPost _ _ _ _ _ (put4 w4 (P + 1 + 1) (lm z)))
    clear HF HCF
    generalize put4 w4 (P + 1 + 1) (lm z) = W5 at *
    obtain ⟨g0, g1, g2, g3⟩ := four4 fun _ => (hF).cell
    exact bodyPost_ret (v := .agg (num z)) (by simp [results, Try.results87, go_sem, num, limbs, g0, g1, g2, g3]) rfl ⟨rfl, hCF⟩

set_option maxRecDepth 100000 in
set_option maxHeartbeats 4000000 in
theorem plane_add {m f x y : Nat} (hm : m < B6 ^ 4) (hx : x < m) (hy : y < m) (w : World) (hF : M4 w f 1 m) :
    Calls Try.prog 72 #[.pointer (some ⟨f, 0, none⟩), .agg (num x), .agg (num y)] w fun e w' =>
    e = .returned (.agg (num ((x + y) % m))) ∧ Chg [] w w' := by
  obtain ⟨z, hz⟩ : ∃ z, (x + y) % m = z := ⟨_, rfl⟩
  rw [hz]
  have hadd := fun w => limb_add x y w
  have hc : cry x y 4 = (x + y) / B6 ^ 4 := by
    unfold cry
    rw [Nat.mod_eq_of_lt (by omega), Nat.mod_eq_of_lt (by omega)]
  rw [hc] at hadd
  obtain ⟨t, ht⟩ : ∃ t, x + y = t := ⟨_, rfl⟩
  rw [ht] at hadd hz
  obtain ⟨top, htop⟩ : ∃ top, t / B6 ^ 4 = top := ⟨_, rfl⟩
  rw [htop] at hadd
  obtain ⟨l, n, bit, s1, s2, s3, s4, s5, s6⟩ := sel_red (t := t) (m := m) (r := t % B6 ^ 4) (top := top) (by rw [← htop, Nat.mul_comm, Nat.mod_add_div]) (Nat.mod_lt _ (by decide)) (by omega) hm (by
    rw [← htop]; simp only [B6] at *; omega)
  have hsub := fun w => limb_sub0 (t % B6 ^ 4) m _ rfl (by omega) w
  rw [num_mod, s1] at hsub
  obtain ⟨d, hd⟩ : ∃ d, t % B6 ^ 4 + B6 ^ 4 - m = d := ⟨_, rfl⟩
  rw [hd] at hsub s6
  have hsel := fun w => limb_select bit s5 d (t % B6 ^ 4) w
  rw [s6, num_mod, hz] at hsel
  unfold num limbs at hadd hsub hsel
  have HAdd := Lib.hid hadd; have HSub := Lib.hid hsub; have HSel := Lib.hid hsel; have HS3 := Lib.hid s3; have HS4 := Lib.hid s4
  clear hadd hsub hsel s1 s2 s3 s4 s5 s6 hd htop ht hz hc hx hy hm
  obtain ⟨W0, hW0⟩ : ∃ W0, ((w.alloc (.cells #[.int .u64 (lm x 0 : Nat), .int .u64 (lm x 1 : Nat), .int .u64 (lm x 2 : Nat), .int .u64 (lm x 3 : Nat)] 24)).alloc (.cells #[.int .u64 (lm y 0 : Nat), .int .u64 (lm y 1 : Nat), .int .u64 (lm y 2 : Nat), .int .u64 (lm y 3 : Nat)] 24)).alloc (.cells #[.int .u64 0, .int .u64 0, .int .u64 0, .int .u64 0] 24) = W0 := ⟨_, rfl⟩
  have uX : U4 W0 w.heap.size 24 (lm x) := by rw [← hW0]; exact has_alloc (has_alloc (has_alloc_new _ _))
  have uY : U4 W0 (w.heap.size + 1) 24 (lm y) := by rw [← hW0]; exact has_alloc (has_alloc_at (by simp))
  have uR : U4 W0 (w.heap.size + 1 + 1) 24 (fun _ => 0) := by rw [← hW0]; exact has_alloc_at (by simp)
  have hC0 : Chg [] w W0 := by rw [← hW0]; exact (((Chg.refl _ _).alloc _).alloc _).alloc _
  have hF0 := hF.chg hC0 nmN
  obtain ⟨x0, x1, x2, x3⟩ := four4 fun _ => (uX).cell
  obtain ⟨y0, y1, y2, y3⟩ := four4 fun _ => (uY).cell
  have HR := Lib.hid uR; have HC0 := Lib.hid hC0; have HF0 := Lib.hid hF0
  unfold num limbs
  clear uX uY uR hC0 hF0 hF
  go_enter Try.func72, Try.ntmps72
  go_wp2_with fail
  try rw [hW0]
  clear hW0
  obtain ⟨P, hP⟩ : ∃ P, w.heap.size = P := ⟨_, rfl⟩
  rw [hP] at HR x0 x1 x2 x3 y0 y1 y2 y3 ⊢
  refine (HAdd.out _).mono ?_
  rintro e w1 ⟨rfl, hC1⟩
  have hR1 := HR.out.chg hC1 nmN
  have hF1 := HF0.out.chg hC1 nmN
  have hC2 := HC0.out.trans hC1
  clear x0 x1 x2 x3 y0 y1 y2 y3 HR HC0 HF0 hC1
  obtain ⟨W1, hW1⟩ : ∃ W1, w1.alloc (.cells #[.int .u64 (lm t 0 : Nat), .int .u64 (lm t 1 : Nat), .int .u64 (lm t 2 : Nat), .int .u64 (lm t 3 : Nat)] 24) = W1 := ⟨_, rfl⟩
  have hS2 : U4 W1 w1.heap.size 24 (lm t) := by rw [← hW1]; exact has_alloc_new _ _
  have hA1 : Chg [] w1 W1 := by rw [← hW1]; exact (Chg.refl _ _).alloc _
  have hF2 := hF1.chg hA1 nmN
  have hR2 := hR1.chg hA1 nmN
  have hC3 := hC2.trans hA1
  obtain ⟨B, hB⟩ : ∃ B, w1.heap.size = B := ⟨_, rfl⟩
  rw [hB] at hS2
  obtain ⟨s0, s1, s2, s3⟩ := four4 fun _ => (hS2).cell
  obtain ⟨m0, m1, m2, m3⟩ := four4 fun _ => (hF2).cell
  have HS2 := Lib.hid hS2; have HR2 := Lib.hid hR2; have HC2 := Lib.hid hC3
  clear hF1 hF2 hR1 hR2 hC2 hC3 hA1 hS2
  go_upto_region 2 with fail
  try rw [hW1]
  try rw [hB]
  clear hW1 hB
  go_upto_region 2 with fail
  go_cut [9, 10] from 17 to 25 (fun cv lv wx => ∃ cb, cv = .pointer (some ⟨cb, 0, none⟩) ∧ lv = .int .u64 (l : Nat) ∧ U4 wx cb 24 (lm (d)) ∧ Chg [] W1 wx)
  case first =>
    have hlt0 : B < W1.heap.size := World.block_lt_of_cell? _ _ s0
    have hlt1 : f < W1.heap.size := World.block_lt_of_cell? _ _ m0
    have HC4 := Lib.hid (Chg.refl [] W1)
    have H9s0 := Lib.hid s0; have H9s1 := Lib.hid s1; have H9s2 := Lib.hid s2; have H9s3 := Lib.hid s3; have H9m0 := Lib.hid m0; have H9m1 := Lib.hid m1; have H9m2 := Lib.hid m2; have H9m3 := Lib.hid m3
    go_region_held3 (fun w9 => w9.cell? ⟨B, 0, none⟩ = some (.int .u64 (lm t 0 : Nat)) ∧ w9.cell? ⟨B, 1, none⟩ = some (.int .u64 (lm t 1 : Nat)) ∧ w9.cell? ⟨B, 2, none⟩ = some (.int .u64 (lm t 2 : Nat)) ∧ w9.cell? ⟨B, 3, none⟩ = some (.int .u64 (lm t 3 : Nat)) ∧ w9.cell? ⟨f, 1, none⟩ = some (.int .u64 (lm m 0 : Nat)) ∧ w9.cell? ⟨f, 2, none⟩ = some (.int .u64 (lm m 1 : Nat)) ∧ w9.cell? ⟨f, 3, none⟩ = some (.int .u64 (lm m 2 : Nat)) ∧ w9.cell? ⟨f, 4, none⟩ = some (.int .u64 (lm m 3 : Nat)))
      (first | with_reducible exact ⟨s0, s1, s2, s3, m0, m1, m2, m3⟩ | with_reducible exact ⟨cell_put4 s0 (Nat.ne_of_lt (Nat.lt_of_lt_of_le hlt0 HGE.out)), cell_put4 s1 (Nat.ne_of_lt (Nat.lt_of_lt_of_le hlt0 HGE.out)), cell_put4 s2 (Nat.ne_of_lt (Nat.lt_of_lt_of_le hlt0 HGE.out)), cell_put4 s3 (Nat.ne_of_lt (Nat.lt_of_lt_of_le hlt0 HGE.out)), cell_put4 m0 (Nat.ne_of_lt (Nat.lt_of_lt_of_le hlt1 HGE.out)), cell_put4 m1 (Nat.ne_of_lt (Nat.lt_of_lt_of_le hlt1 HGE.out)), cell_put4 m2 (Nat.ne_of_lt (Nat.lt_of_lt_of_le hlt1 HGE.out)), cell_put4 m3 (Nat.ne_of_lt (Nat.lt_of_lt_of_le hlt1 HGE.out))⟩ | go_keep)
      (first | (go_at_call 85; go_loud (refine (HSub.out _).mono ?_; rintro e w3 ⟨rfl, hC3⟩; have hC4 := Chg.trans (S := []) (a := W1) (by repeat (with_reducible first | exact HC4.out | apply Chg.drew | apply Chg.drewN | apply Chg.alloc)) hC3; (first | (with_reducible have hN3 := HN3.out.chg hC3 nmN; clear HN3; obtain ⟨n0, n1, n2, n3⟩ := four4 fun _ => (hN3).cell; have nz0 := (hN3).fz 0; have nz1 := (hN3).fz 1; have nz2 := (hN3).fz 2; have nz3 := (hN3).fz 3; have HN3 := Lib.hid hN3; clear hN3) | (with_reducible (first | have hN3 := U4.kept hC3 | have hN3 := U4.kept1 hC3 | have hN3 := U4.kept2 hC3); have HGE := Lib.hid (HC4.out.size); obtain ⟨n0, n1, n2, n3⟩ := four4 fun _ => (hN3).cell; have nz0 := (hN3).fz 0; have nz1 := (hN3).fz 1; have nz2 := (hN3).fz 2; have nz3 := (hN3).fz 3; have HN3 := Lib.hid hN3; clear hN3) | skip); have hsz := hC4.size; replace s0 := hC4.cell H9s0.out nmN; replace s1 := hC4.cell H9s1.out nmN; replace s2 := hC4.cell H9s2.out nmN; replace s3 := hC4.cell H9s3.out nmN; replace m0 := hC4.cell H9m0.out nmN; replace m1 := hC4.cell H9m1.out nmN; replace m2 := hC4.cell H9m2.out nmN; replace m3 := hC4.cell H9m3.out nmN; clear HC4 hC3; have HC4 := Lib.hid hC4; clear hC4)))
    all_goals (go_wp2_with fail; go_meet)
    all_goals (first | with_reducible exact ⟨_, rfl, rfl, U4.new _ _ _, HC4.out.alloc _⟩ | with_reducible exact ⟨_, rfl, rfl, U4.put_x HN3.out _, HC4.out.put_x (Or.inr HGE.out) _⟩)
  case rest =>
    obtain ⟨cb, rfl, rfl, hcb, hC3⟩ := hcut
    clear s0 s1 s2 s3 m0 m1 m2 m3
    have hS3 := HS2.out.chg hC3 nmN
    have hR3 := HR2.out.chg hC3 nmN
    have hC4 := HC2.out.trans hC3
    obtain ⟨d0, d1, d2, d3⟩ := four4 fun _ => (hcb).cell
    obtain ⟨s0, s1, s2, s3⟩ := four4 fun _ => (hS3).cell
    have HR3 := Lib.hid hR3; have HC3 := Lib.hid hC4
    clear hS3 hcb hR3 hC3 hC4 HS2 HR2 HC2
    have s3 := HS3.out; have s4 := HS4.out
    go_wp2_with fail
    refine (HSel.out _).mono ?_
    rintro e w4 ⟨rfl, hC4⟩
    have hR4 := HR3.out.chg hC4 nmN
    have hw4 := HC3.out.trans hC4
    have hll := hR4.lt
    obtain ⟨q0, q1, q2, q3⟩ := four4 fun _ => (hR4).cell
    have qz0 := (hR4).fz 0; have qz1 := (hR4).fz 1; have qz2 := (hR4).fz 2; have qz3 := (hR4).fz 3
    have HF := Lib.hid (hR4.put (lm z)); have HCF := Lib.hid (hw4.put4 (b := P + 1 + 1) (Or.inr (by omega)) (lm z))
    clear hR4 hw4 hC4 HR3 HC3
    go_wp2_with fail
    have hF := HF.out
    have hCF := HCF.out
    refine (id ?_ : bodyPost _ _ _ _ _ (put4 w4 (P + 1 + 1) (lm z)))
    clear HF HCF
    generalize put4 w4 (P + 1 + 1) (lm z) = W5 at *
    obtain ⟨g0, g1, g2, g3⟩ := four4 fun _ => (hF).cell
    exact bodyPost_ret (v := .agg (num z)) (by simp [results, Try.results72, go_sem, num, limbs, g0, g1, g2, g3]) rfl ⟨rfl, hCF⟩

set_option maxRecDepth 100000 in
set_option maxHeartbeats 4000000 in
theorem plane_sub {m f x y : Nat} (hm : m < B6 ^ 4) (hx : x < m) (hy : y < m) (w : World) (hF : M4 w f 1 m) :
    Calls Try.prog 71 #[.pointer (some ⟨f, 0, none⟩), .agg (num x), .agg (num y)] w fun e w' =>
    e = .returned (.agg (num ((x + m - y) % m))) ∧ Chg [] w w' := by
  obtain ⟨z, hz⟩ : ∃ z, (x + m - y) % m = z := ⟨_, rfl⟩
  rw [hz]
  have hsub := fun w => limb_sub0 x y _ rfl (by omega) w
  rw [bor4 (Nat.lt_trans hx hm) (Nat.lt_trans hy hm)] at hsub
  obtain ⟨t, ht⟩ : ∃ t, x + B6 ^ 4 - y = t := ⟨_, rfl⟩
  rw [ht] at hsub
  have hadd := fun w => limb_add t m w
  obtain ⟨l, hl⟩ : ∃ l : Nat, (if x < y then 1 else 0) = l := ⟨_, rfl⟩
  rw [hl] at hsub
  have hl1 : l ≤ 1 := by rw [← hl]; split <;> omega
  have hsel := fun w => limb_select l hl1 (t + m) t w
  have hnum : num (if l = 1 then t + m else t) = num z := by
    rw [← hl, ← hz, ← ht]
    by_cases h : x < y
    · rw [if_pos h, if_pos rfl, Nat.mod_eq_of_lt (by omega), ← num_top (x + m - y)]
      congr 1
      omega
    · have e1 : x + m - y = (x - y) + m := by omega
      have e2 : x + B6 ^ 4 - y = (x - y) + B6 ^ 4 := by omega
      rw [if_neg h, if_neg (by omega), e1, e2, num_top, Nat.add_mod_right, Nat.mod_eq_of_lt (by omega)]
  rw [hnum] at hsel
  obtain ⟨d, hd⟩ : ∃ d, t + m = d := ⟨_, rfl⟩
  rw [hd] at hadd hsel
  obtain ⟨c, hc⟩ : ∃ c : Nat, cry t m 4 = c := ⟨_, rfl⟩
  rw [hc] at hadd
  unfold num limbs at hadd hsub hsel
  have HAdd := Lib.hid hadd; have HSub := Lib.hid hsub; have HSel := Lib.hid hsel
  clear hadd hsub hsel hnum hd hc hl hl1 ht hz hx hy hm
  obtain ⟨W0, hW0⟩ : ∃ W0, ((w.alloc (.cells #[.int .u64 (lm x 0 : Nat), .int .u64 (lm x 1 : Nat), .int .u64 (lm x 2 : Nat), .int .u64 (lm x 3 : Nat)] 24)).alloc (.cells #[.int .u64 (lm y 0 : Nat), .int .u64 (lm y 1 : Nat), .int .u64 (lm y 2 : Nat), .int .u64 (lm y 3 : Nat)] 24)).alloc (.cells #[.int .u64 0, .int .u64 0, .int .u64 0, .int .u64 0] 24) = W0 := ⟨_, rfl⟩
  have uX : U4 W0 w.heap.size 24 (lm x) := by rw [← hW0]; exact has_alloc (has_alloc (has_alloc_new _ _))
  have uY : U4 W0 (w.heap.size + 1) 24 (lm y) := by rw [← hW0]; exact has_alloc (has_alloc_at (by simp))
  have uR : U4 W0 (w.heap.size + 1 + 1) 24 (fun _ => 0) := by rw [← hW0]; exact has_alloc_at (by simp)
  have hC0 : Chg [] w W0 := by rw [← hW0]; exact (((Chg.refl _ _).alloc _).alloc _).alloc _
  have hF0 := hF.chg hC0 nmN
  obtain ⟨x0, x1, x2, x3⟩ := four4 fun _ => (uX).cell
  obtain ⟨y0, y1, y2, y3⟩ := four4 fun _ => (uY).cell
  have HR := Lib.hid uR; have HC0 := Lib.hid hC0; have HF0 := Lib.hid hF0
  unfold num limbs
  clear uX uY uR hC0 hF0 hF
  go_enter Try.func71, Try.ntmps71
  go_wp2_with fail
  try rw [hW0]
  clear hW0
  obtain ⟨P, hP⟩ : ∃ P, w.heap.size = P := ⟨_, rfl⟩
  rw [hP] at HR x0 x1 x2 x3 y0 y1 y2 y3 ⊢
  refine (HSub.out _).mono ?_
  rintro e w1 ⟨rfl, hC1⟩
  have hR1 := HR.out.chg hC1 nmN
  have hF1 := HF0.out.chg hC1 nmN
  have hC2 := HC0.out.trans hC1
  clear x0 x1 x2 x3 y0 y1 y2 y3 HR HC0 HF0 hC1
  obtain ⟨W1, hW1⟩ : ∃ W1, w1.alloc (.cells #[.int .u64 (lm t 0 : Nat), .int .u64 (lm t 1 : Nat), .int .u64 (lm t 2 : Nat), .int .u64 (lm t 3 : Nat)] 24) = W1 := ⟨_, rfl⟩
  have hS2 : U4 W1 w1.heap.size 24 (lm t) := by rw [← hW1]; exact has_alloc_new _ _
  have hA1 : Chg [] w1 W1 := by rw [← hW1]; exact (Chg.refl _ _).alloc _
  have hF2 := hF1.chg hA1 nmN
  have hR2 := hR1.chg hA1 nmN
  have hC3 := hC2.trans hA1
  obtain ⟨B, hB⟩ : ∃ B, w1.heap.size = B := ⟨_, rfl⟩
  rw [hB] at hS2
  obtain ⟨s0, s1, s2, s3⟩ := four4 fun _ => (hS2).cell
  obtain ⟨m0, m1, m2, m3⟩ := four4 fun _ => (hF2).cell
  have HS2 := Lib.hid hS2; have HR2 := Lib.hid hR2; have HC2 := Lib.hid hC3
  clear hF1 hF2 hR1 hR2 hC2 hC3 hA1 hS2
  go_upto_region 2 with fail
  try rw [hW1]
  try rw [hB]
  clear hW1 hB
  go_upto_region 2 with fail
  go_cut [9, 10] from 17 to 25 (fun cv lv wx => ∃ cb, cv = .pointer (some ⟨cb, 0, none⟩) ∧ lv = .int .u64 (c : Nat) ∧ U4 wx cb 24 (lm (d)) ∧ Chg [] W1 wx)
  case first =>
    have hlt0 : B < W1.heap.size := World.block_lt_of_cell? _ _ s0
    have hlt1 : f < W1.heap.size := World.block_lt_of_cell? _ _ m0
    have HC4 := Lib.hid (Chg.refl [] W1)
    have H9s0 := Lib.hid s0; have H9s1 := Lib.hid s1; have H9s2 := Lib.hid s2; have H9s3 := Lib.hid s3; have H9m0 := Lib.hid m0; have H9m1 := Lib.hid m1; have H9m2 := Lib.hid m2; have H9m3 := Lib.hid m3
    go_region_held3 (fun w9 => w9.cell? ⟨B, 0, none⟩ = some (.int .u64 (lm t 0 : Nat)) ∧ w9.cell? ⟨B, 1, none⟩ = some (.int .u64 (lm t 1 : Nat)) ∧ w9.cell? ⟨B, 2, none⟩ = some (.int .u64 (lm t 2 : Nat)) ∧ w9.cell? ⟨B, 3, none⟩ = some (.int .u64 (lm t 3 : Nat)) ∧ w9.cell? ⟨f, 1, none⟩ = some (.int .u64 (lm m 0 : Nat)) ∧ w9.cell? ⟨f, 2, none⟩ = some (.int .u64 (lm m 1 : Nat)) ∧ w9.cell? ⟨f, 3, none⟩ = some (.int .u64 (lm m 2 : Nat)) ∧ w9.cell? ⟨f, 4, none⟩ = some (.int .u64 (lm m 3 : Nat)))
      (first | with_reducible exact ⟨s0, s1, s2, s3, m0, m1, m2, m3⟩ | with_reducible exact ⟨cell_put4 s0 (Nat.ne_of_lt (Nat.lt_of_lt_of_le hlt0 HGE.out)), cell_put4 s1 (Nat.ne_of_lt (Nat.lt_of_lt_of_le hlt0 HGE.out)), cell_put4 s2 (Nat.ne_of_lt (Nat.lt_of_lt_of_le hlt0 HGE.out)), cell_put4 s3 (Nat.ne_of_lt (Nat.lt_of_lt_of_le hlt0 HGE.out)), cell_put4 m0 (Nat.ne_of_lt (Nat.lt_of_lt_of_le hlt1 HGE.out)), cell_put4 m1 (Nat.ne_of_lt (Nat.lt_of_lt_of_le hlt1 HGE.out)), cell_put4 m2 (Nat.ne_of_lt (Nat.lt_of_lt_of_le hlt1 HGE.out)), cell_put4 m3 (Nat.ne_of_lt (Nat.lt_of_lt_of_le hlt1 HGE.out))⟩ | go_keep)
      (first | (go_at_call 84; go_loud (refine (HAdd.out _).mono ?_; rintro e w3 ⟨rfl, hC3⟩; have hC4 := Chg.trans (S := []) (a := W1) (by repeat (with_reducible first | exact HC4.out | apply Chg.drew | apply Chg.drewN | apply Chg.alloc)) hC3; (first | (with_reducible have hN3 := HN3.out.chg hC3 nmN; clear HN3; obtain ⟨n0, n1, n2, n3⟩ := four4 fun _ => (hN3).cell; have nz0 := (hN3).fz 0; have nz1 := (hN3).fz 1; have nz2 := (hN3).fz 2; have nz3 := (hN3).fz 3; have HN3 := Lib.hid hN3; clear hN3) | (with_reducible (first | have hN3 := U4.kept hC3 | have hN3 := U4.kept1 hC3 | have hN3 := U4.kept2 hC3); have HGE := Lib.hid (HC4.out.size); obtain ⟨n0, n1, n2, n3⟩ := four4 fun _ => (hN3).cell; have nz0 := (hN3).fz 0; have nz1 := (hN3).fz 1; have nz2 := (hN3).fz 2; have nz3 := (hN3).fz 3; have HN3 := Lib.hid hN3; clear hN3) | skip); have hsz := hC4.size; replace s0 := hC4.cell H9s0.out nmN; replace s1 := hC4.cell H9s1.out nmN; replace s2 := hC4.cell H9s2.out nmN; replace s3 := hC4.cell H9s3.out nmN; replace m0 := hC4.cell H9m0.out nmN; replace m1 := hC4.cell H9m1.out nmN; replace m2 := hC4.cell H9m2.out nmN; replace m3 := hC4.cell H9m3.out nmN; clear HC4 hC3; have HC4 := Lib.hid hC4; clear hC4)))
    all_goals (go_wp2_with fail; go_meet)
    all_goals (first | with_reducible exact ⟨_, rfl, rfl, U4.new _ _ _, HC4.out.alloc _⟩ | with_reducible exact ⟨_, rfl, rfl, U4.put_x HN3.out _, HC4.out.put_x (Or.inr HGE.out) _⟩)
  case rest =>
    obtain ⟨cb, rfl, rfl, hcb, hC3⟩ := hcut
    clear s0 s1 s2 s3 m0 m1 m2 m3
    have hS3 := HS2.out.chg hC3 nmN
    have hR3 := HR2.out.chg hC3 nmN
    have hC4 := HC2.out.trans hC3
    obtain ⟨d0, d1, d2, d3⟩ := four4 fun _ => (hcb).cell
    obtain ⟨s0, s1, s2, s3⟩ := four4 fun _ => (hS3).cell
    have HR3 := Lib.hid hR3; have HC3 := Lib.hid hC4
    clear hS3 hcb hR3 hC3 hC4 HS2 HR2 HC2
    go_wp2_with fail
    refine (HSel.out _).mono ?_
    rintro e w4 ⟨rfl, hC4⟩
    have hR4 := HR3.out.chg hC4 nmN
    have hw4 := HC3.out.trans hC4
    have hll := hR4.lt
    obtain ⟨q0, q1, q2, q3⟩ := four4 fun _ => (hR4).cell
    have qz0 := (hR4).fz 0; have qz1 := (hR4).fz 1; have qz2 := (hR4).fz 2; have qz3 := (hR4).fz 3
    have HF := Lib.hid (hR4.put (lm z)); have HCF := Lib.hid (hw4.put4 (b := P + 1 + 1) (Or.inr (by omega)) (lm z))
    clear hR4 hw4 hC4 HR3 HC3
    go_wp2_with fail
    have hF := HF.out
    have hCF := HCF.out
    refine (id ?_ : bodyPost _ _ _ _ _ (put4 w4 (P + 1 + 1) (lm z)))
    clear HF HCF
    generalize put4 w4 (P + 1 + 1) (lm z) = W5 at *
    obtain ⟨g0, g1, g2, g3⟩ := four4 fun _ => (hF).cell
    exact bodyPost_ret (v := .agg (num z)) (by simp [results, Try.results71, go_sem, num, limbs, g0, g1, g2, g3]) rfl ⟨rfl, hCF⟩

end Go.Proofs.Ytplldbmjdnikeaa

/- The walks of field.Field.Check, Modulus, times; curve.plane.mul. -/
namespace Go.Proofs.Ytplldbmjdnikeaa
set_option linter.unusedVariables false
set_option linter.unusedSimpArgs false
open Go.RowKit

/-- The cells of a field.Field. -/
def fdCells (a m root : Nat) : Array Value := #[.int .u64 (lm m 0 : Nat), .int .u64 (lm m 1 : Nat), .int .u64 (lm m 2 : Nat), .int .u64 (lm m 3 : Nat), .pointer (some ⟨a, 0, none⟩), .int .u64 (lm root 0 : Nat), .int .u64 (lm root 1 : Nat), .int .u64 (lm root 2 : Nat), .int .u64 (lm root 3 : Nat)]
/-- Block f is the field of m. -/
def Fd (w : World) (f a m v root : Nat) : Prop := w.heap[f]? = some (.cells (fdCells a m root) 95 (0, 0)) ∧ Mt w a m v
theorem Fd.m4 {w : World} {f a m v root : Nat} (h : Fd w f a m v root) : M4 w f 0 m := fun i hi => by
  rw [cell_of_has h.1]
  have : i = 0 ∨ i = 1 ∨ i = 2 ∨ i = 3 := by omega
  rcases this with rfl | rfl | rfl | rfl <;> rfl
theorem Fd.r4 {w : World} {f a m v root : Nat} (h : Fd w f a m v root) : M4 w f 5 root := fun i hi => by
  rw [cell_of_has h.1]
  have : i = 0 ∨ i = 1 ∨ i = 2 ∨ i = 3 := by omega
  rcases this with rfl | rfl | rfl | rfl <;> rfl
theorem Fd.way {w : World} {f a m v root : Nat} (h : Fd w f a m v root) : w.cell? ⟨f, 4, none⟩ = some (.pointer (some ⟨a, 0, none⟩)) := by
  rw [cell_of_has h.1]; rfl
theorem Fd.chg {S : List Nat} {w w' : World} {f a m v root : Nat} (h : Fd w f a m v root) (hc : Chg S w w') (hs : f ∉ S) (hs2 : a ∉ S) : Fd w' f a m v root := ⟨hc.has h.1 hs, h.2.chg hc hs2⟩
theorem Fd.ch {w w' : World} {f a m v root : Nat} (h : Fd w f a m v root) (hc : Chg [] w w') : Fd w' f a m v root := h.chg hc nmN nmN

/-- The cells of a curve.plane. -/
def plCells (a m : Nat) : Array Value := #[.pointer (some ⟨a, 0, none⟩), .int .u64 (lm m 0 : Nat), .int .u64 (lm m 1 : Nat), .int .u64 (lm m 2 : Nat), .int .u64 (lm m 3 : Nat), .int .u64 (lm (B6 ^ 4 % m) 0 : Nat), .int .u64 (lm (B6 ^ 4 % m) 1 : Nat), .int .u64 (lm (B6 ^ 4 % m) 2 : Nat), .int .u64 (lm (B6 ^ 4 % m) 3 : Nat)]
/-- Block f is the plane of m. -/
def Pl (w : World) (f a m v : Nat) : Prop := w.heap[f]? = some (.cells (plCells a m) 105 (0, 0)) ∧ Mt w a m v
theorem Pl.m4 {w : World} {f a m v : Nat} (h : Pl w f a m v) : M4 w f 1 m := fun i hi => by
  rw [cell_of_has h.1]
  have : i = 0 ∨ i = 1 ∨ i = 2 ∨ i = 3 := by omega
  rcases this with rfl | rfl | rfl | rfl <;> rfl
theorem Pl.o4 {w : World} {f a m v : Nat} (h : Pl w f a m v) : M4 w f 5 (B6 ^ 4 % m) := fun i hi => by
  rw [cell_of_has h.1]
  have : i = 0 ∨ i = 1 ∨ i = 2 ∨ i = 3 := by omega
  rcases this with rfl | rfl | rfl | rfl <;> rfl
theorem Pl.way {w : World} {f a m v : Nat} (h : Pl w f a m v) : w.cell? ⟨f, 0, none⟩ = some (.pointer (some ⟨a, 0, none⟩)) := by
  rw [cell_of_has h.1]; rfl
theorem Pl.ch {w w' : World} {f a m v : Nat} (h : Pl w f a m v) (hc : Chg [] w w') : Pl w' f a m v := ⟨hc.has h.1 nmN, h.2.chg hc nmN⟩

/-- What Check tells. -/
def chkN (x m : Nat) : Int := if x < m then 0 else 20

set_option maxRecDepth 100000 in
set_option maxHeartbeats 4000000 in
theorem field_check {m f x : Nat} (hm : m < B6 ^ 4) (hx : x < B6 ^ 4) (w : World) (hF : M4 w f 0 m) :
    Calls Try.prog 44 #[.pointer (some ⟨f, 0, none⟩), .agg (num x)] w fun e w' =>
    e = .returned (.int .i64 (chkN x m)) ∧ Chg [] w w' := by
  have hcmp := fun w => limb_cmp x m (by omega) (by omega) w
  have hcn : (x < m ∧ cmpN x m < 0) ∨ (¬ x < m ∧ 0 ≤ cmpN x m) := by
    unfold cmpN
    rw [bor4 hx hm, bor4 hm hx]
    by_cases h : x < m
    · left; rw [if_pos h, if_neg (by omega)]; exact ⟨h, by decide⟩
    · right; rw [if_neg h]; refine ⟨h, ?_⟩; split <;> decide
  generalize cmpN x m = c at *
  unfold num limbs at hcmp
  have HCmp := Lib.hid hcmp
  obtain ⟨W0, hW0⟩ : ∃ W0, w.alloc (.cells #[.int .u64 (lm x 0 : Nat), .int .u64 (lm x 1 : Nat), .int .u64 (lm x 2 : Nat), .int .u64 (lm x 3 : Nat)] 24) = W0 := ⟨_, rfl⟩
  have uX : U4 W0 w.heap.size 24 (lm x) := by rw [← hW0]; exact has_alloc_new _ _
  have hC0 : Chg [] w W0 := by rw [← hW0]; exact (Chg.refl _ _).alloc _
  have hF0 := hF.chg hC0 nmN
  obtain ⟨x0, x1, x2, x3⟩ := four4 fun _ => (uX).cell
  obtain ⟨m0, m1, m2, m3⟩ := four4 fun _ => (hF0).cell
  have HC0 := Lib.hid hC0
  unfold num limbs
  clear uX hC0 hF0 hF hcmp hx hm
  have hr : ∀ z, chkN x m = z → z = (if x < m then 0 else 20) := fun z h => h.symm.trans rfl
  obtain ⟨z, hz⟩ : ∃ z, chkN x m = z := ⟨_, rfl⟩
  have hz2 := hr z hz
  rw [hz]
  clear hr hz
  rcases hcn with ⟨hlt, hc⟩ | ⟨hlt, hc⟩
  · rw [if_pos hlt] at hz2
    subst hz2
    clear hlt
    have hcc : ¬ 0 ≤ c := by omega
    clear hc
    go_enter Try.func44, Try.ntmps44
    go_wp2_with fail
    try rw [hW0]
    clear hW0
    obtain ⟨P, hP⟩ : ∃ P, w.heap.size = P := ⟨_, rfl⟩
    rw [hP] at x0 x1 x2 x3 ⊢
    have HC4 := Lib.hid (Chg.refl [] W0)
    have H9x0 := Lib.hid x0; have H9x1 := Lib.hid x1; have H9x2 := Lib.hid x2; have H9x3 := Lib.hid x3; have H9m0 := Lib.hid m0; have H9m1 := Lib.hid m1; have H9m2 := Lib.hid m2; have H9m3 := Lib.hid m3
    go_region_held3 (fun w9 => w9.cell? ⟨P, 0, none⟩ = some (.int .u64 (lm x 0 : Nat)) ∧ w9.cell? ⟨P, 1, none⟩ = some (.int .u64 (lm x 1 : Nat)) ∧ w9.cell? ⟨P, 2, none⟩ = some (.int .u64 (lm x 2 : Nat)) ∧ w9.cell? ⟨P, 3, none⟩ = some (.int .u64 (lm x 3 : Nat)) ∧ w9.cell? ⟨f, 0, none⟩ = some (.int .u64 (lm m 0 : Nat)) ∧ w9.cell? ⟨f, 1, none⟩ = some (.int .u64 (lm m 1 : Nat)) ∧ w9.cell? ⟨f, 2, none⟩ = some (.int .u64 (lm m 2 : Nat)) ∧ w9.cell? ⟨f, 3, none⟩ = some (.int .u64 (lm m 3 : Nat)))
      (first | with_reducible exact ⟨x0, x1, x2, x3, m0, m1, m2, m3⟩ | go_keep)
      (first | (go_at_call 78; go_loud (refine (HCmp.out _).mono ?_; rintro e w3 ⟨rfl, hC3⟩; have hC4 := Chg.trans (S := []) (a := W0) (by repeat (with_reducible first | exact HC4.out | apply Chg.drew | apply Chg.drewN | apply Chg.alloc)) hC3; replace x0 := hC4.cell H9x0.out nmN; replace x1 := hC4.cell H9x1.out nmN; replace x2 := hC4.cell H9x2.out nmN; replace x3 := hC4.cell H9x3.out nmN; replace m0 := hC4.cell H9m0.out nmN; replace m1 := hC4.cell H9m1.out nmN; replace m2 := hC4.cell H9m2.out nmN; replace m3 := hC4.cell H9m3.out nmN; clear HC4 hC3; have HC4 := Lib.hid hC4; clear hC4)))
    go_wp2_with fail
    go_ret
    exact ⟨rfl, HC0.out.trans HC4.out⟩
  · rw [if_neg hlt] at hz2
    subst hz2
    clear hlt
    go_enter Try.func44, Try.ntmps44
    go_wp2_with fail
    try rw [hW0]
    clear hW0
    obtain ⟨P, hP⟩ : ∃ P, w.heap.size = P := ⟨_, rfl⟩
    rw [hP] at x0 x1 x2 x3 ⊢
    have HC4 := Lib.hid (Chg.refl [] W0)
    have H9x0 := Lib.hid x0; have H9x1 := Lib.hid x1; have H9x2 := Lib.hid x2; have H9x3 := Lib.hid x3; have H9m0 := Lib.hid m0; have H9m1 := Lib.hid m1; have H9m2 := Lib.hid m2; have H9m3 := Lib.hid m3
    go_region_held3 (fun w9 => w9.cell? ⟨P, 0, none⟩ = some (.int .u64 (lm x 0 : Nat)) ∧ w9.cell? ⟨P, 1, none⟩ = some (.int .u64 (lm x 1 : Nat)) ∧ w9.cell? ⟨P, 2, none⟩ = some (.int .u64 (lm x 2 : Nat)) ∧ w9.cell? ⟨P, 3, none⟩ = some (.int .u64 (lm x 3 : Nat)) ∧ w9.cell? ⟨f, 0, none⟩ = some (.int .u64 (lm m 0 : Nat)) ∧ w9.cell? ⟨f, 1, none⟩ = some (.int .u64 (lm m 1 : Nat)) ∧ w9.cell? ⟨f, 2, none⟩ = some (.int .u64 (lm m 2 : Nat)) ∧ w9.cell? ⟨f, 3, none⟩ = some (.int .u64 (lm m 3 : Nat)))
      (first | with_reducible exact ⟨x0, x1, x2, x3, m0, m1, m2, m3⟩ | go_keep)
      (first | (go_at_call 78; go_loud (refine (HCmp.out _).mono ?_; rintro e w3 ⟨rfl, hC3⟩; have hC4 := Chg.trans (S := []) (a := W0) (by repeat (with_reducible first | exact HC4.out | apply Chg.drew | apply Chg.drewN | apply Chg.alloc)) hC3; replace x0 := hC4.cell H9x0.out nmN; replace x1 := hC4.cell H9x1.out nmN; replace x2 := hC4.cell H9x2.out nmN; replace x3 := hC4.cell H9x3.out nmN; replace m0 := hC4.cell H9m0.out nmN; replace m1 := hC4.cell H9m1.out nmN; replace m2 := hC4.cell H9m2.out nmN; replace m3 := hC4.cell H9m3.out nmN; clear HC4 hC3; have HC4 := Lib.hid hC4; clear hC4)))
    go_wp2_with fail
    go_ret
    exact ⟨rfl, HC0.out.trans HC4.out⟩

set_option maxRecDepth 100000 in
set_option maxHeartbeats 4000000 in
theorem field_modulus {z f : Nat} (w : World) (hF : M4 w f 0 z) :
    Calls Try.prog 65 #[.pointer (some ⟨f, 0, none⟩)] w fun e w' =>
    e = .returned (.agg (num z)) ∧ Chg [] w w' := by
  obtain ⟨W0, hW0⟩ : ∃ W0, w.alloc (.cells #[.int .u64 0, .int .u64 0, .int .u64 0, .int .u64 0] 24) = W0 := ⟨_, rfl⟩
  have uR : U4 W0 w.heap.size 24 (fun _ => 0) := by rw [← hW0]; exact has_alloc_new _ _
  have hC0 : Chg [] w W0 := by rw [← hW0]; exact (Chg.refl _ _).alloc _
  have hF0 := hF.chg hC0 nmN
  obtain ⟨m0, m1, m2, m3⟩ := four4 fun _ => (hF0).cell
  obtain ⟨q0, q1, q2, q3⟩ := four4 fun _ => (uR).cell
  have qz0 := (uR).fz 0; have qz1 := (uR).fz 1; have qz2 := (uR).fz 2; have qz3 := (uR).fz 3
  have hll := uR.lt
  obtain ⟨P, hP⟩ : ∃ P, w.heap.size = P := ⟨_, rfl⟩
  rw [hP] at uR q0 q1 q2 q3 qz0 qz1 qz2 qz3 hll
  have HF := Lib.hid (uR.put (lm z)); have HCF := Lib.hid (hC0.put4 (b := P) (Or.inr (by omega)) (lm z))
  clear uR hC0 hF0 hF
  go_enter Try.func65, Try.ntmps65
  go_wp2_with fail
  have hF := HF.out
  have hCF := HCF.out
  refine (id ?_ : bodyPost _ _ _ _ _ (put4 W0 (P) (lm z)))
  clear HF HCF
  generalize put4 W0 (P) (lm z) = W5 at *
  obtain ⟨g0, g1, g2, g3⟩ := four4 fun _ => (hF).cell
  exact bodyPost_ret (v := .agg (num z)) (by simp [results, Try.results65, go_sem, num, limbs, g0, g1, g2, g3]) rfl ⟨rfl, hCF⟩

set_option maxRecDepth 100000 in
set_option maxHeartbeats 4000000 in
theorem plane_mul {m v ri f a x y : Nat} (hW : Way m v ri) (hx : x < m) (hy : y < m) (w : World) (hF : Pl w f a m v) :
    Calls Try.prog 70 #[.pointer (some ⟨f, 0, none⟩), .agg (num x), .agg (num y)] w fun e w' =>
    e = .returned (.agg (num (x * y * ri % m))) ∧ Chg [] w w' := by
  have hmul := fun w hM => mont_mul hW a x y hx hy w hM
  obtain ⟨z, hz⟩ : ∃ z, x * y * ri % m = z := ⟨_, rfl⟩
  rw [hz] at hmul ⊢
  unfold num limbs at hmul
  have HMul := Lib.hid hmul
  clear hz hx hy hmul hW
  obtain ⟨W0, hW0⟩ : ∃ W0, ((w.alloc (.cells #[.int .u64 (lm x 0 : Nat), .int .u64 (lm x 1 : Nat), .int .u64 (lm x 2 : Nat), .int .u64 (lm x 3 : Nat)] 24)).alloc (.cells #[.int .u64 (lm y 0 : Nat), .int .u64 (lm y 1 : Nat), .int .u64 (lm y 2 : Nat), .int .u64 (lm y 3 : Nat)] 24)).alloc (.cells #[.int .u64 0, .int .u64 0, .int .u64 0, .int .u64 0] 24) = W0 := ⟨_, rfl⟩
  have uX : U4 W0 w.heap.size 24 (lm x) := by rw [← hW0]; exact has_alloc (has_alloc (has_alloc_new _ _))
  have uY : U4 W0 (w.heap.size + 1) 24 (lm y) := by rw [← hW0]; exact has_alloc (has_alloc_at (by simp))
  have uR : U4 W0 (w.heap.size + 1 + 1) 24 (fun _ => 0) := by rw [← hW0]; exact has_alloc_at (by simp)
  have hC0 : Chg [] w W0 := by rw [← hW0]; exact (((Chg.refl _ _).alloc _).alloc _).alloc _
  have hF0 := hF.ch hC0
  obtain ⟨x0, x1, x2, x3⟩ := four4 fun _ => (uX).cell
  obtain ⟨y0, y1, y2, y3⟩ := four4 fun _ => (uY).cell
  have p0 := hF0.way
  have HR := Lib.hid uR; have HC0 := Lib.hid hC0; have HF0 := Lib.hid hF0
  unfold num limbs
  clear uX uY uR hC0 hF0 hF
  go_enter Try.func70, Try.ntmps70
  go_upto_region 1 with fail
  try rw [hW0]
  clear hW0
  obtain ⟨P, hP⟩ : ∃ P, w.heap.size = P := ⟨_, rfl⟩
  rw [hP] at HR x0 x1 x2 x3 y0 y1 y2 y3 ⊢
  go_upto_region 1 with fail
  go_cut [7, 8] from 9 to 18 (fun cv lv wx => ∃ cb, cv = .pointer (some ⟨cb, 0, none⟩) ∧ lv = .int .i64 0 ∧ U4 wx cb 24 (lm (z)) ∧ Chg [] W0 wx)
  case first =>
    have hlt0 : P < W0.heap.size := World.block_lt_of_cell? _ _ x0
    have hlt1 : P + 1 < W0.heap.size := World.block_lt_of_cell? _ _ y0
    have hlt2 : f < W0.heap.size := World.block_lt_of_cell? _ _ p0
    have HC4 := Lib.hid (Chg.refl [] W0)
    have H9x0 := Lib.hid x0; have H9x1 := Lib.hid x1; have H9x2 := Lib.hid x2; have H9x3 := Lib.hid x3; have H9y0 := Lib.hid y0; have H9y1 := Lib.hid y1; have H9y2 := Lib.hid y2; have H9y3 := Lib.hid y3; have H9p0 := Lib.hid p0
    go_region_held3 (fun w9 => w9.cell? ⟨P, 0, none⟩ = some (.int .u64 (lm x 0 : Nat)) ∧ w9.cell? ⟨P, 1, none⟩ = some (.int .u64 (lm x 1 : Nat)) ∧ w9.cell? ⟨P, 2, none⟩ = some (.int .u64 (lm x 2 : Nat)) ∧ w9.cell? ⟨P, 3, none⟩ = some (.int .u64 (lm x 3 : Nat)) ∧ w9.cell? ⟨P + 1, 0, none⟩ = some (.int .u64 (lm y 0 : Nat)) ∧ w9.cell? ⟨P + 1, 1, none⟩ = some (.int .u64 (lm y 1 : Nat)) ∧ w9.cell? ⟨P + 1, 2, none⟩ = some (.int .u64 (lm y 2 : Nat)) ∧ w9.cell? ⟨P + 1, 3, none⟩ = some (.int .u64 (lm y 3 : Nat)) ∧ w9.cell? ⟨f, 0, none⟩ = some (.pointer (some ⟨a, 0, none⟩)))
      (first | with_reducible exact ⟨x0, x1, x2, x3, y0, y1, y2, y3, p0⟩ | with_reducible exact ⟨cell_put4 x0 (Nat.ne_of_lt (Nat.lt_of_lt_of_le hlt0 HGE.out)), cell_put4 x1 (Nat.ne_of_lt (Nat.lt_of_lt_of_le hlt0 HGE.out)), cell_put4 x2 (Nat.ne_of_lt (Nat.lt_of_lt_of_le hlt0 HGE.out)), cell_put4 x3 (Nat.ne_of_lt (Nat.lt_of_lt_of_le hlt0 HGE.out)), cell_put4 y0 (Nat.ne_of_lt (Nat.lt_of_lt_of_le hlt1 HGE.out)), cell_put4 y1 (Nat.ne_of_lt (Nat.lt_of_lt_of_le hlt1 HGE.out)), cell_put4 y2 (Nat.ne_of_lt (Nat.lt_of_lt_of_le hlt1 HGE.out)), cell_put4 y3 (Nat.ne_of_lt (Nat.lt_of_lt_of_le hlt1 HGE.out)), cell_put4 p0 (Nat.ne_of_lt (Nat.lt_of_lt_of_le hlt2 HGE.out))⟩ | go_keep)
      (first | (go_at_call 69; go_loud (refine (HMul.out _ (HF0.out.2.chg (by repeat (with_reducible first | exact HC4.out | exact Chg.refl _ _ | apply Chg.drew | apply Chg.drewN | apply Chg.alloc)) nmN)).mono ?_; rintro e w3 ⟨rfl, hC3⟩; have hC4 := Chg.trans (S := []) (a := W0) (by repeat (with_reducible first | exact HC4.out | apply Chg.drew | apply Chg.drewN | apply Chg.alloc)) hC3; (first | (with_reducible have hN3 := HN3.out.chg hC3 nmN; clear HN3; obtain ⟨n0, n1, n2, n3⟩ := four4 fun _ => (hN3).cell; have nz0 := (hN3).fz 0; have nz1 := (hN3).fz 1; have nz2 := (hN3).fz 2; have nz3 := (hN3).fz 3; have HN3 := Lib.hid hN3; clear hN3) | (with_reducible (first | have hN3 := U4.kept hC3 | have hN3 := U4.kept1 hC3 | have hN3 := U4.kept2 hC3); have HGE := Lib.hid (HC4.out.size); obtain ⟨n0, n1, n2, n3⟩ := four4 fun _ => (hN3).cell; have nz0 := (hN3).fz 0; have nz1 := (hN3).fz 1; have nz2 := (hN3).fz 2; have nz3 := (hN3).fz 3; have HN3 := Lib.hid hN3; clear hN3) | skip); have hsz := hC4.size; replace x0 := hC4.cell H9x0.out nmN; replace x1 := hC4.cell H9x1.out nmN; replace x2 := hC4.cell H9x2.out nmN; replace x3 := hC4.cell H9x3.out nmN; replace y0 := hC4.cell H9y0.out nmN; replace y1 := hC4.cell H9y1.out nmN; replace y2 := hC4.cell H9y2.out nmN; replace y3 := hC4.cell H9y3.out nmN; replace p0 := hC4.cell H9p0.out nmN; clear HC4 hC3; have HC4 := Lib.hid hC4; clear hC4)))
    all_goals (go_wp2_with fail; go_meet)
    all_goals (first | with_reducible exact ⟨_, rfl, rfl, U4.new _ _ _, HC4.out.alloc _⟩ | with_reducible exact ⟨_, rfl, rfl, U4.put_x HN3.out _, HC4.out.put_x (Or.inr HGE.out) _⟩)
  case rest =>
    obtain ⟨cb, rfl, rfl, hcb, hC3⟩ := hcut
    clear x0 x1 x2 x3 y0 y1 y2 y3 p0
    have hR3 := HR.out.chg hC3 nmN
    have hC4 := HC0.out.trans hC3
    obtain ⟨d0, d1, d2, d3⟩ := four4 fun _ => (hcb).cell
    obtain ⟨q0, q1, q2, q3⟩ := four4 fun _ => (hR3).cell
    have qz0 := (hR3).fz 0; have qz1 := (hR3).fz 1; have qz2 := (hR3).fz 2; have qz3 := (hR3).fz 3
    have hll := hR3.lt
    have HF := Lib.hid (hR3.put (lm z)); have HCF := Lib.hid (hC4.put4 (b := P + 1 + 1) (Or.inr (by omega)) (lm z))
    clear hcb hR3 hC3 hC4 HR HC0 HF0
    go_wp2_with fail
    have hF := HF.out
    have hCF := HCF.out
    refine (id ?_ : bodyPost _ _ _ _ _ (put4 wc (P + 1 + 1) (lm z)))
    clear HF HCF
    generalize put4 wc (P + 1 + 1) (lm z) = W5 at *
    obtain ⟨g0, g1, g2, g3⟩ := four4 fun _ => (hF).cell
    exact bodyPost_ret (v := .agg (num z)) (by simp [results, Try.results70, go_sem, num, limbs, g0, g1, g2, g3]) rfl ⟨rfl, hCF⟩

set_option maxRecDepth 100000 in
set_option maxHeartbeats 4000000 in
theorem field_times {m v ri f a root x y : Nat} (hW : Way m v ri) (hx : x < m) (hy : y < m) (w : World) (hF : Fd w f a m v root) :
    Calls Try.prog 57 #[.pointer (some ⟨f, 0, none⟩), .agg (num x), .agg (num y)] w fun e w' =>
    e = .returned (.agg (num (x * y % m))) ∧ Chg [] w w' := by
  have hto := fun w hM => mont_to hW a x hx w hM
  have ht : x * B6 ^ 4 % m < m := Nat.mod_lt _ (by omega)
  have hmul := fun w hM => mont_mul hW a _ y ht hy w hM
  have he : x * B6 ^ 4 % m * y * ri % m = x * y % m := by
    have e1 : x * B6 ^ 4 % m * y * ri % m = x * y * (B6 ^ 4 * ri) % m := by
      rw [Nat.mul_assoc, Nat.mod_mul_mod]
      congr 1
      simp only [Nat.mul_comm, Nat.mul_left_comm, Nat.mul_assoc]
    rw [e1, Nat.mul_mod, hW.ri, Nat.mul_one, Nat.mod_mod]
  rw [he] at hmul
  obtain ⟨z, hz⟩ : ∃ z, x * y % m = z := ⟨_, rfl⟩
  rw [hz] at hmul ⊢
  clear he
  obtain ⟨t, hte⟩ : ∃ t, x * B6 ^ 4 % m = t := ⟨_, rfl⟩
  rw [hte] at hto hmul
  unfold num limbs at hmul hto
  have HMul := Lib.hid hmul; have HTo := Lib.hid hto
  clear hz hx hy hmul hW hto ht hte
  obtain ⟨W0, hW0⟩ : ∃ W0, ((w.alloc (.cells #[.int .u64 (lm x 0 : Nat), .int .u64 (lm x 1 : Nat), .int .u64 (lm x 2 : Nat), .int .u64 (lm x 3 : Nat)] 24)).alloc (.cells #[.int .u64 (lm y 0 : Nat), .int .u64 (lm y 1 : Nat), .int .u64 (lm y 2 : Nat), .int .u64 (lm y 3 : Nat)] 24)).alloc (.cells #[.int .u64 0, .int .u64 0, .int .u64 0, .int .u64 0] 24) = W0 := ⟨_, rfl⟩
  have uX : U4 W0 w.heap.size 24 (lm x) := by rw [← hW0]; exact has_alloc (has_alloc (has_alloc_new _ _))
  have uY : U4 W0 (w.heap.size + 1) 24 (lm y) := by rw [← hW0]; exact has_alloc (has_alloc_at (by simp))
  have uR : U4 W0 (w.heap.size + 1 + 1) 24 (fun _ => 0) := by rw [← hW0]; exact has_alloc_at (by simp)
  have hC0 : Chg [] w W0 := by rw [← hW0]; exact (((Chg.refl _ _).alloc _).alloc _).alloc _
  have hF0 := hF.ch hC0
  obtain ⟨x0, x1, x2, x3⟩ := four4 fun _ => (uX).cell
  obtain ⟨y0, y1, y2, y3⟩ := four4 fun _ => (uY).cell
  have p0 := hF0.way
  have HR := Lib.hid uR; have HC0 := Lib.hid hC0; have HF0 := Lib.hid hF0
  unfold num limbs
  clear uX uY uR hC0 hF0 hF
  go_enter Try.func57, Try.ntmps57
  go_upto_region 1 with fail
  try rw [hW0]
  clear hW0
  obtain ⟨P, hP⟩ : ∃ P, w.heap.size = P := ⟨_, rfl⟩
  rw [hP] at HR x0 x1 x2 x3 y0 y1 y2 y3 ⊢
  go_upto_region 1 with fail
  go_cut [7, 8] from 11 to 19 (fun cv lv wx => ∃ cb, cv = .pointer (some ⟨cb, 0, none⟩) ∧ lv = .int .i64 0 ∧ U4 wx cb 24 (lm (t)) ∧ Chg [] W0 wx)
  case first =>
    have hlt0 : P < W0.heap.size := World.block_lt_of_cell? _ _ x0
    have hlt1 : f < W0.heap.size := World.block_lt_of_cell? _ _ p0
    have HC4 := Lib.hid (Chg.refl [] W0)
    have H9x0 := Lib.hid x0; have H9x1 := Lib.hid x1; have H9x2 := Lib.hid x2; have H9x3 := Lib.hid x3; have H9p0 := Lib.hid p0
    go_region_held3 (fun w9 => w9.cell? ⟨P, 0, none⟩ = some (.int .u64 (lm x 0 : Nat)) ∧ w9.cell? ⟨P, 1, none⟩ = some (.int .u64 (lm x 1 : Nat)) ∧ w9.cell? ⟨P, 2, none⟩ = some (.int .u64 (lm x 2 : Nat)) ∧ w9.cell? ⟨P, 3, none⟩ = some (.int .u64 (lm x 3 : Nat)) ∧ w9.cell? ⟨f, 4, none⟩ = some (.pointer (some ⟨a, 0, none⟩)))
      (first | with_reducible exact ⟨x0, x1, x2, x3, p0⟩ | with_reducible exact ⟨cell_put4 x0 (Nat.ne_of_lt (Nat.lt_of_lt_of_le hlt0 HGE.out)), cell_put4 x1 (Nat.ne_of_lt (Nat.lt_of_lt_of_le hlt0 HGE.out)), cell_put4 x2 (Nat.ne_of_lt (Nat.lt_of_lt_of_le hlt0 HGE.out)), cell_put4 x3 (Nat.ne_of_lt (Nat.lt_of_lt_of_le hlt0 HGE.out)), cell_put4 p0 (Nat.ne_of_lt (Nat.lt_of_lt_of_le hlt1 HGE.out))⟩ | go_keep)
      (first | (go_at_call 66; go_loud (refine (HTo.out _ (HF0.out.2.chg (by repeat (with_reducible first | exact HC4.out | exact Chg.refl _ _ | apply Chg.drew | apply Chg.drewN | apply Chg.alloc)) nmN)).mono ?_; rintro e w3 ⟨rfl, hC3⟩; have hC4 := Chg.trans (S := []) (a := W0) (by repeat (with_reducible first | exact HC4.out | apply Chg.drew | apply Chg.drewN | apply Chg.alloc)) hC3; (first | (with_reducible have hN3 := HN3.out.chg hC3 nmN; clear HN3; obtain ⟨n0, n1, n2, n3⟩ := four4 fun _ => (hN3).cell; have nz0 := (hN3).fz 0; have nz1 := (hN3).fz 1; have nz2 := (hN3).fz 2; have nz3 := (hN3).fz 3; have HN3 := Lib.hid hN3; clear hN3) | (with_reducible (first | have hN3 := U4.kept hC3 | have hN3 := U4.kept1 hC3 | have hN3 := U4.kept2 hC3); have HGE := Lib.hid (HC4.out.size); obtain ⟨n0, n1, n2, n3⟩ := four4 fun _ => (hN3).cell; have nz0 := (hN3).fz 0; have nz1 := (hN3).fz 1; have nz2 := (hN3).fz 2; have nz3 := (hN3).fz 3; have HN3 := Lib.hid hN3; clear hN3) | skip); have hsz := hC4.size; replace x0 := hC4.cell H9x0.out nmN; replace x1 := hC4.cell H9x1.out nmN; replace x2 := hC4.cell H9x2.out nmN; replace x3 := hC4.cell H9x3.out nmN; replace p0 := hC4.cell H9p0.out nmN; clear HC4 hC3; have HC4 := Lib.hid hC4; clear hC4)))
    all_goals (go_wp2_with fail; go_meet)
    all_goals (first | with_reducible exact ⟨_, rfl, rfl, U4.new _ _ _, HC4.out.alloc _⟩ | with_reducible exact ⟨_, rfl, rfl, U4.put_x HN3.out _, HC4.out.put_x (Or.inr HGE.out) _⟩)
  case rest =>
    obtain ⟨cb, rfl, rfl, hcb, hC3⟩ := hcut
    have HR3 := Lib.hid (HR.out.chg hC3 nmN)
    have HC3 := Lib.hid (HC0.out.trans hC3)
    have HF3 := Lib.hid (HF0.out.ch hC3)
    replace p0 := hC3.cell p0 nmN
    replace y0 := hC3.cell y0 nmN
    replace y1 := hC3.cell y1 nmN
    replace y2 := hC3.cell y2 nmN
    replace y3 := hC3.cell y3 nmN
    obtain ⟨d0, d1, d2, d3⟩ := four4 fun _ => (hcb).cell
    clear x0 x1 x2 x3 hcb hC3 HR HC0 HF0
    go_upto_region 2 with fail
    go_cut [9, 10] from 20 to 29 (fun cv lv wx => ∃ cb, cv = .pointer (some ⟨cb, 0, none⟩) ∧ lv = .int .i64 0 ∧ U4 wx cb 24 (lm (z)) ∧ Chg [] wc wx)
    case first =>
      have hlt0 : cb < wc.heap.size := World.block_lt_of_cell? _ _ d0
      have hlt1 : P + 1 < wc.heap.size := World.block_lt_of_cell? _ _ y0
      have hlt2 : f < wc.heap.size := World.block_lt_of_cell? _ _ p0
      have HC4 := Lib.hid (Chg.refl [] wc)
      have H9d0 := Lib.hid d0; have H9d1 := Lib.hid d1; have H9d2 := Lib.hid d2; have H9d3 := Lib.hid d3; have H9y0 := Lib.hid y0; have H9y1 := Lib.hid y1; have H9y2 := Lib.hid y2; have H9y3 := Lib.hid y3; have H9p0 := Lib.hid p0
      go_region_held3 (fun w9 => w9.cell? ⟨cb, 0, none⟩ = some (.int .u64 (lm t 0 : Nat)) ∧ w9.cell? ⟨cb, 1, none⟩ = some (.int .u64 (lm t 1 : Nat)) ∧ w9.cell? ⟨cb, 2, none⟩ = some (.int .u64 (lm t 2 : Nat)) ∧ w9.cell? ⟨cb, 3, none⟩ = some (.int .u64 (lm t 3 : Nat)) ∧ w9.cell? ⟨P + 1, 0, none⟩ = some (.int .u64 (lm y 0 : Nat)) ∧ w9.cell? ⟨P + 1, 1, none⟩ = some (.int .u64 (lm y 1 : Nat)) ∧ w9.cell? ⟨P + 1, 2, none⟩ = some (.int .u64 (lm y 2 : Nat)) ∧ w9.cell? ⟨P + 1, 3, none⟩ = some (.int .u64 (lm y 3 : Nat)) ∧ w9.cell? ⟨f, 4, none⟩ = some (.pointer (some ⟨a, 0, none⟩)))
        (first | with_reducible exact ⟨d0, d1, d2, d3, y0, y1, y2, y3, p0⟩ | with_reducible exact ⟨cell_put4 d0 (Nat.ne_of_lt (Nat.lt_of_lt_of_le hlt0 HGE.out)), cell_put4 d1 (Nat.ne_of_lt (Nat.lt_of_lt_of_le hlt0 HGE.out)), cell_put4 d2 (Nat.ne_of_lt (Nat.lt_of_lt_of_le hlt0 HGE.out)), cell_put4 d3 (Nat.ne_of_lt (Nat.lt_of_lt_of_le hlt0 HGE.out)), cell_put4 y0 (Nat.ne_of_lt (Nat.lt_of_lt_of_le hlt1 HGE.out)), cell_put4 y1 (Nat.ne_of_lt (Nat.lt_of_lt_of_le hlt1 HGE.out)), cell_put4 y2 (Nat.ne_of_lt (Nat.lt_of_lt_of_le hlt1 HGE.out)), cell_put4 y3 (Nat.ne_of_lt (Nat.lt_of_lt_of_le hlt1 HGE.out)), cell_put4 p0 (Nat.ne_of_lt (Nat.lt_of_lt_of_le hlt2 HGE.out))⟩ | go_keep)
        (first | (go_at_call 69; go_loud (refine (HMul.out _ (HF3.out.2.chg (by repeat (with_reducible first | exact HC4.out | exact Chg.refl _ _ | apply Chg.drew | apply Chg.drewN | apply Chg.alloc)) nmN)).mono ?_; rintro e w3 ⟨rfl, hC3⟩; have hC4 := Chg.trans (S := []) (a := wc) (by repeat (with_reducible first | exact HC4.out | apply Chg.drew | apply Chg.drewN | apply Chg.alloc)) hC3; (first | (with_reducible have hN3 := HN3.out.chg hC3 nmN; clear HN3; obtain ⟨n0, n1, n2, n3⟩ := four4 fun _ => (hN3).cell; have nz0 := (hN3).fz 0; have nz1 := (hN3).fz 1; have nz2 := (hN3).fz 2; have nz3 := (hN3).fz 3; have HN3 := Lib.hid hN3; clear hN3) | (with_reducible (first | have hN3 := U4.kept hC3 | have hN3 := U4.kept1 hC3 | have hN3 := U4.kept2 hC3); have HGE := Lib.hid (HC4.out.size); obtain ⟨n0, n1, n2, n3⟩ := four4 fun _ => (hN3).cell; have nz0 := (hN3).fz 0; have nz1 := (hN3).fz 1; have nz2 := (hN3).fz 2; have nz3 := (hN3).fz 3; have HN3 := Lib.hid hN3; clear hN3) | skip); have hsz := hC4.size; replace d0 := hC4.cell H9d0.out nmN; replace d1 := hC4.cell H9d1.out nmN; replace d2 := hC4.cell H9d2.out nmN; replace d3 := hC4.cell H9d3.out nmN; replace y0 := hC4.cell H9y0.out nmN; replace y1 := hC4.cell H9y1.out nmN; replace y2 := hC4.cell H9y2.out nmN; replace y3 := hC4.cell H9y3.out nmN; replace p0 := hC4.cell H9p0.out nmN; clear HC4 hC3; have HC4 := Lib.hid hC4; clear hC4)))
      all_goals (go_wp2_with fail; go_meet)
      all_goals (first | with_reducible exact ⟨_, rfl, rfl, U4.new _ _ _, HC4.out.alloc _⟩ | with_reducible exact ⟨_, rfl, rfl, U4.put_x HN3.out _, HC4.out.put_x (Or.inr HGE.out) _⟩)
    case rest =>
      obtain ⟨cb2, rfl, rfl, hcb, hC4⟩ := hcut
      clear d0 d1 d2 d3 y0 y1 y2 y3 p0
      have hR3 := HR3.out.chg hC4 nmN
      have hC5 := HC3.out.trans hC4
      obtain ⟨d0, d1, d2, d3⟩ := four4 fun _ => (hcb).cell
      obtain ⟨q0, q1, q2, q3⟩ := four4 fun _ => (hR3).cell
      have qz0 := (hR3).fz 0; have qz1 := (hR3).fz 1; have qz2 := (hR3).fz 2; have qz3 := (hR3).fz 3
      have hll := hR3.lt
      have HF := Lib.hid (hR3.put (lm z)); have HCF := Lib.hid (hC5.put4 (b := P + 1 + 1) (Or.inr (by omega)) (lm z))
      clear hcb hR3 hC4 hC5 HR3 HC3 HF3
      go_wp2_with fail
      have hF := HF.out
      have hCF := HCF.out
      refine (id ?_ : bodyPost _ _ _ _ _ (put4 wc (P + 1 + 1) (lm z)))
      clear HF HCF
      generalize put4 wc (P + 1 + 1) (lm z) = W5 at *
      obtain ⟨g0, g1, g2, g3⟩ := four4 fun _ => (hF).cell
      exact bodyPost_ret (v := .agg (num z)) (by simp [results, Try.results57, go_sem, num, limbs, g0, g1, g2, g3]) rfl ⟨rfl, hCF⟩

end Go.Proofs.Ytplldbmjdnikeaa

/- The walks of field.Base, Scalars; the two ways' numbers. Printed by basep.py. -/
namespace Go.Proofs.Ytplldbmjdnikeaa
set_option linter.unusedVariables false
set_option linter.unusedSimpArgs false
open Go.RowKit

/-- 2^256's inverse mod PP, the exponent of a root. -/
def riP : Nat := 91248989341183975618893650062416139444822672217621753343178995607984094583082
def vP : Nat := (18446744073709551616 - nwN (lm PP 0) 6) % 18446744073709551616
theorem way_P : Way PP vP riP := ⟨by decide +kernel, ⟨Nat.mod_lt _ (by decide), by decide +kernel⟩, by decide +kernel, by decide +kernel⟩
/-- 2^256's inverse mod QQ, the exponent of a root. -/
def riQ : Nat := 98562742561918706241446412617699626731164144128788972284189895985653995782166
def vQ : Nat := (18446744073709551616 - nwN (lm QQ 0) 6) % 18446744073709551616
theorem way_Q : Way QQ vQ riQ := ⟨by decide +kernel, ⟨Nat.mod_lt _ (by decide), by decide +kernel⟩, by decide +kernel, by decide +kernel⟩
def rootP : Nat := 28948022309329048855892746252171976963317496166410141009864396001977208667916
theorem num_PP : num PP = #[.int .u64 18446744069414583343, .int .u64 18446744073709551615, .int .u64 18446744073709551615, .int .u64 18446744073709551615] := by
  unfold num limbs
  rw [show lm PP 0 = 18446744069414583343 by decide +kernel, show lm PP 1 = 18446744073709551615 by decide +kernel, show lm PP 2 = 18446744073709551615 by decide +kernel, show lm PP 3 = 18446744073709551615 by decide +kernel]
  rfl
theorem num_QQ : num QQ = #[.int .u64 13822214165235122497, .int .u64 13451932020343611451, .int .u64 18446744073709551614, .int .u64 18446744073709551615] := by
  unfold num limbs
  rw [show lm QQ 0 = 13822214165235122497 by decide +kernel, show lm QQ 1 = 13451932020343611451 by decide +kernel, show lm QQ 2 = 18446744073709551614 by decide +kernel, show lm QQ 3 = 18446744073709551615 by decide +kernel]
  rfl
theorem num_rootP : num rootP = #[.int .u64 18446744072635809548, .int .u64 18446744073709551615, .int .u64 18446744073709551615, .int .u64 4611686018427387903] := by
  unfold num limbs
  rw [show lm rootP 0 = 18446744072635809548 by decide +kernel, show lm rootP 1 = 18446744073709551615 by decide +kernel, show lm rootP 2 = 18446744073709551615 by decide +kernel, show lm rootP 3 = 4611686018427387903 by decide +kernel]
  rfl

set_option maxRecDepth 100000 in
set_option maxHeartbeats 4000000 in
theorem field_base (w : World) : Calls Try.prog 38 #[] w fun e w' =>
    ∃ f a, e = .returned (.pointer (some ⟨f, 0, none⟩)) ∧ Chg [] w w' ∧ Fd w' f a PP vP rootP := by
  have hnew := fun w => limb_newMont PP (by decide +kernel) (by decide +kernel) (by decide +kernel) way_P.inv w
  rw [num_PP] at hnew
  have HNew := Lib.hid hnew
  clear hnew
  have hfd : ∀ (w : World) (a : Nat), Mt w a PP vP → Fd (w.alloc (.cells #[.int .u64 18446744069414583343, .int .u64 18446744073709551615, .int .u64 18446744073709551615, .int .u64 18446744073709551615, .pointer (some ⟨a, 0, none⟩), .int .u64 18446744072635809548, .int .u64 18446744073709551615, .int .u64 18446744073709551615, .int .u64 4611686018427387903] 95)) w.heap.size a PP vP rootP := fun w a h => by
    refine ⟨?_, h.chg ((Chg.refl [] w).alloc _) nmN⟩
    have e : fdCells a PP rootP = #[.int .u64 18446744069414583343, .int .u64 18446744073709551615, .int .u64 18446744073709551615, .int .u64 18446744073709551615, .pointer (some ⟨a, 0, none⟩), .int .u64 18446744072635809548, .int .u64 18446744073709551615, .int .u64 18446744073709551615, .int .u64 4611686018427387903] := by
      have h1 := num_PP
      have h2 := num_rootP
      unfold num limbs at h1 h2
      simp only [Array.mk.injEq, List.cons.injEq] at h1 h2
      obtain ⟨a0, a1, a2, a3, _⟩ := h1
      obtain ⟨b0, b1, b2, b3, _⟩ := h2
      unfold fdCells
      rw [a0, a1, a2, a3, b0, b1, b2, b3]
    rw [← e]
    exact has_alloc_new w _
  have HFd := Lib.hid hfd
  clear hfd
  go_enter Try.func38, Try.ntmps38
  go_wp2_with fail
  refine (HNew.out _).mono ?_
  rintro e w1 ⟨a, rfl, ha, hC1, hM1⟩
  have hC0 : Chg [] w (w.alloc (.cells #[.int .u64 18446744069414583343, .int .u64 18446744073709551615, .int .u64 18446744073709551615, .int .u64 18446744073709551615] 24)) := (Chg.refl _ _).alloc _
  have hM : w1.heap[w.heap.size]? = some (.cells #[.int .u64 18446744069414583343, .int .u64 18446744073709551615, .int .u64 18446744073709551615, .int .u64 18446744073709551615] 24 (0, 0)) := hC1.has (has_alloc_new _ _) nmN
  have m0 := cell_of_has hM 0; have m1 := cell_of_has hM 1; have m2 := cell_of_has hM 2; have m3 := cell_of_has hM 3
  simp only [glA, glB, glC] at m0 m1 m2 m3
  have HC1 := Lib.hid (hC0.trans hC1); have HM1 := Lib.hid hM1
  clear hC0 hC1 hM hM1 ha
  go_wp2_with fail
  go_ret
  exact ⟨_, a, rfl, HC1.out.alloc _, HFd.out _ _ HM1.out⟩

theorem num_zero : num 0 = #[.int .u64 0, .int .u64 0, .int .u64 0, .int .u64 0] := by
  unfold num limbs
  rw [lm_zero, lm_zero, lm_zero, lm_zero]
  rfl

set_option maxRecDepth 100000 in
set_option maxHeartbeats 4000000 in
theorem field_scalars (w : World) : Calls Try.prog 23 #[] w fun e w' =>
    ∃ f a, e = .returned (.pointer (some ⟨f, 0, none⟩)) ∧ Chg [] w w' ∧ Fd w' f a QQ vQ 0 := by
  have hnew := fun w => limb_newMont QQ (by decide +kernel) (by decide +kernel) (by decide +kernel) way_Q.inv w
  rw [num_QQ] at hnew
  have HNew := Lib.hid hnew
  clear hnew
  have hfd : ∀ (w : World) (a : Nat), Mt w a QQ vQ → Fd (w.alloc (.cells #[.int .u64 13822214165235122497, .int .u64 13451932020343611451, .int .u64 18446744073709551614, .int .u64 18446744073709551615, .pointer (some ⟨a, 0, none⟩), .int .u64 0, .int .u64 0, .int .u64 0, .int .u64 0] 95)) w.heap.size a QQ vQ 0 := fun w a h => by
    refine ⟨?_, h.chg ((Chg.refl [] w).alloc _) nmN⟩
    have e : fdCells a QQ 0 = #[.int .u64 13822214165235122497, .int .u64 13451932020343611451, .int .u64 18446744073709551614, .int .u64 18446744073709551615, .pointer (some ⟨a, 0, none⟩), .int .u64 0, .int .u64 0, .int .u64 0, .int .u64 0] := by
      have h1 := num_QQ
      have h2 := num_zero
      unfold num limbs at h1 h2
      simp only [Array.mk.injEq, List.cons.injEq] at h1 h2
      obtain ⟨a0, a1, a2, a3, _⟩ := h1
      obtain ⟨b0, b1, b2, b3, _⟩ := h2
      unfold fdCells
      rw [a0, a1, a2, a3, b0, b1, b2, b3]
    rw [← e]
    exact has_alloc_new w _
  have HFd := Lib.hid hfd
  clear hfd
  go_enter Try.func23, Try.ntmps23
  go_wp2_with fail
  refine (HNew.out _).mono ?_
  rintro e w1 ⟨a, rfl, ha, hC1, hM1⟩
  have hC0 : Chg [] w (w.alloc (.cells #[.int .u64 13822214165235122497, .int .u64 13451932020343611451, .int .u64 18446744073709551614, .int .u64 18446744073709551615] 24)) := (Chg.refl _ _).alloc _
  have hM : w1.heap[w.heap.size]? = some (.cells #[.int .u64 13822214165235122497, .int .u64 13451932020343611451, .int .u64 18446744073709551614, .int .u64 18446744073709551615] 24 (0, 0)) := hC1.has (has_alloc_new _ _) nmN
  have m0 := cell_of_has hM 0; have m1 := cell_of_has hM 1; have m2 := cell_of_has hM 2; have m3 := cell_of_has hM 3
  simp only [glA, glB, glC] at m0 m1 m2 m3
  have HC1 := Lib.hid (hC0.trans hC1); have HM1 := Lib.hid hM1
  clear hC0 hC1 hM hM1 ha
  go_wp2_with fail
  go_ret
  exact ⟨_, a, rfl, HC1.out.alloc _, HFd.out _ _ HM1.out⟩

end Go.Proofs.Ytplldbmjdnikeaa
