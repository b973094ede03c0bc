/- The walk of field.Field.Sqrt. Printed by sqrta.py. -/
import Derived.Test.YtplldbmjdnikeaaSelT
import Derived.Test.YtplldbmjdnikeaaFi2
import Derived.Test.YtplldbmjdnikeaaLb3
import Derived.Test.YtplldbmjdnikeaaAn
namespace Go.Proofs.Ytplldbmjdnikeaa
set_option linter.unusedVariables false
set_option linter.unusedSimpArgs false
open Go.RowKit

/-- The even one of a root and its negative. -/
def evR (m r : Nat) : Nat := if r % 2 = 1 then (0 + m - r) % m else r
theorem num4 (z : Nat) : num z = #[.int .u64 (lm z 0 : Nat), .int .u64 (lm z 1 : Nat), .int .u64 (lm z 2 : Nat), .int .u64 (lm z 3 : Nat)] := rfl
theorem R4.ret {w : World} {b : Nat} {t : TypeId} (h : U4 w b t (fun _ => 0)) : w.heap[b]? = some (.cells #[.int .u64 0, .int .u64 0, .int .u64 0, .int .u64 0] t (0, 0)) := h

set_option maxRecDepth 100000 in
set_option maxHeartbeats 8000000 in
theorem field_sqrt_bad {f fa m v ri q a : Nat} (hW : Way m v ri) (h1 : 1 < m) (hq : q < B6 ^ 4) (hq0 : q ≠ 0) (ha : a < m) (hr : ¬  (a ^ q % m) * (a ^ q % m) % m = a) (w : World) (hF : Fd w f fa m v q) :
    Calls Try.prog 62 #[.pointer (some ⟨f, 0, none⟩), .agg #[.int .u64 (lm a 0 : Nat), .int .u64 (lm a 1 : Nat), .int .u64 (lm a 2 : Nat), .int .u64 (lm a 3 : Nat)]] w fun e w' => e = .returned (.tuple #[.agg #[.int .u64 0, .int .u64 0, .int .u64 0, .int .u64 0], .int .i64 22]) ∧ Chg [] w w' := by
  have ha4 := Nat.lt_trans ha hW.lt
  have hz4 : ∀ y, y % m < m := fun y => Nat.mod_lt y (by omega)
  have hck := fun w hF => field_check (m := m) (f := f) hW.lt ha4 w hF
  rw [show chkN a m = 0 from if_pos ha] at hck
  have hpow := fun w hF => field_pow (f := f) (a := fa) (root := q) hW ha hq w hF
  have hrl := hz4 (a ^ q)
  obtain ⟨r, hre⟩ : ∃ r, a ^ q % m = r := ⟨_, rfl⟩
  rw [hre] at hpow hrl hr
  have htm := fun w hF => field_times (f := f) (a := fa) (root := q) hW hrl hrl w hF
  have hmin := fun w hF => field_minus (f := f) (x := 0) (y := r) hW.lt (by omega) hrl w hF
  have hsel := fun w => limb_sel (lm r 0) (lm_lt r 0) ((0 + m - r) % m) r w
  have hpar : lm r 0 % 2 = r % 2 := by
    have h := bit_nat r 0 0 0 (by omega) (by omega)
    rwa [Nat.pow_zero, Nat.div_one, Nat.div_one] at h
  rw [hpar, show (if r % 2 = 1 then (0 + m - r) % m else r) = evR m r from rfl] at hsel
  have hr4 : r * r % m < B6 ^ 4 := Nat.lt_trans (hz4 _) hW.lt
  have eq1 := fun w => num_eq hr4 ha4 w
  have eq0 := fun w => num_eq0 hq w
  rw [decide_eq_false hq0] at eq0
  rw [decide_eq_false hr] at eq1
  obtain ⟨rr, hrr⟩ : ∃ rr, r * r % m = rr := ⟨_, rfl⟩
  rw [hrr] at htm eq1
  obtain ⟨ng, hng⟩ : ∃ ng, (0 + m - r) % m = ng := ⟨_, rfl⟩
  rw [hng] at hmin hsel
  obtain ⟨z, hz⟩ : ∃ z, evR m r = z := ⟨_, rfl⟩
  rw [hz] at hsel
  rw [num_zero] at hmin
  unfold num limbs at hck hpow htm hmin hsel
  have HCk := Lib.hid hck; have HPow := Lib.hid hpow; have HTm := Lib.hid htm; have HMin := Lib.hid hmin; have HSel := Lib.hid hsel
  have hfl := lt_of_has hF.1
  have hal := lt_of_has hF.2
  clear ha4 hz4 hck hpow hrl hre hr htm hmin hsel hpar hr4 hrr hng hz ha hq hq0 h1 hW
  obtain ⟨W0, hW0⟩ : ∃ W0, (w.alloc (.cells #[.int .u64 (lm a 0 : Nat), .int .u64 (lm a 1 : Nat), .int .u64 (lm a 2 : Nat), .int .u64 (lm a 3 : Nat)] 24)).alloc (.cells #[.int .u64 0, .int .u64 0, .int .u64 0, .int .u64 0] 24) = W0 := ⟨_, rfl⟩
  obtain ⟨B, hB⟩ : ∃ B, w.heap.size = B := ⟨_, rfl⟩
  rw [hB] at hfl hal
  have HA := Lib.hid (show U4 W0 B 24 (lm a) by rw [← hW0, ← hB]; exact has_alloc (has_alloc_new _ _))
  have HR := Lib.hid (show U4 W0 (B + 1) 24 (fun _ => 0) by rw [← hW0, ← hB]; exact has_alloc_at (by simp))
  have HC := Lib.hid (show Chg [] w W0 by rw [← hW0]; exact ((Chg.refl _ _).alloc _).alloc _)
  replace hF := hF.ch HC.out
  have HF := Lib.hid hF
  clear hF
  go_enter Try.func62, Try.ntmps62
  go_upto_region 1 with fail
  try rw [hW0]
  try rw [hB]
  have HwB := Lib.hid (Nat.le_of_eq hB)
  clear hW0 hB
  obtain ⟨a0, a1, a2, a3⟩ := four4 fun _ => HA.out.cell
  go_wp2_with fail
  refine (HCk.out _ HF.out.m4).mono ?_
  rintro e w1 ⟨rfl, hC1⟩
  replace HA := Lib.hid (HA.out.chg hC1 nmN); replace HR := Lib.hid (HR.out.chg hC1 nmN); replace HC := Lib.hid (HC.out.trans hC1); replace HF := Lib.hid (HF.out.ch hC1)
  clear hC1 a0 a1 a2 a3
  obtain ⟨a0, a1, a2, a3⟩ := four4 fun _ => HA.out.cell
  have t0 : w1.cell? ⟨f, 5, none⟩ = some (.int .u64 (lm q 0 : Nat)) := HF.out.r4 0 (by decide)
  have t1 : w1.cell? ⟨f, 6, none⟩ = some (.int .u64 (lm q 1 : Nat)) := HF.out.r4 1 (by decide)
  have t2 : w1.cell? ⟨f, 7, none⟩ = some (.int .u64 (lm q 2 : Nat)) := HF.out.r4 2 (by decide)
  have t3 : w1.cell? ⟨f, 8, none⟩ = some (.int .u64 (lm q 3 : Nat)) := HF.out.r4 3 (by decide)
  go_upto_region 6 with fail
  go_cut [7, 8] from 23 to 32 (fun cv lv wx => ∃ cb, cv = .pointer (some ⟨cb, 0, none⟩) ∧ lv = .int .i64 0 ∧ U4 wx cb 24 (lm (r)) ∧ Chg [] w1 wx ∧ w1.heap.size ≤ cb)
  case first =>
    have hlt0 : B < w1.heap.size := World.block_lt_of_cell? _ _ a0
    have hlt1 : f < w1.heap.size := World.block_lt_of_cell? _ _ t0
    have HC4 := Lib.hid (Chg.refl [] w1)
    have H9a0 := Lib.hid a0; have H9a1 := Lib.hid a1; have H9a2 := Lib.hid a2; have H9a3 := Lib.hid a3; have H9t0 := Lib.hid t0; have H9t1 := Lib.hid t1; have H9t2 := Lib.hid t2; have H9t3 := Lib.hid t3
    go_region_held3 (fun w9 => w9.cell? ⟨B, 0, none⟩ = some (.int .u64 (lm a 0 : Nat)) ∧ w9.cell? ⟨B, 1, none⟩ = some (.int .u64 (lm a 1 : Nat)) ∧ w9.cell? ⟨B, 2, none⟩ = some (.int .u64 (lm a 2 : Nat)) ∧ w9.cell? ⟨B, 3, none⟩ = some (.int .u64 (lm a 3 : Nat)) ∧ w9.cell? ⟨f, 5, none⟩ = some (.int .u64 (lm q 0 : Nat)) ∧ w9.cell? ⟨f, 6, none⟩ = some (.int .u64 (lm q 1 : Nat)) ∧ w9.cell? ⟨f, 7, none⟩ = some (.int .u64 (lm q 2 : Nat)) ∧ w9.cell? ⟨f, 8, none⟩ = some (.int .u64 (lm q 3 : Nat)))
      (first | with_reducible exact ⟨a0, a1, a2, a3, t0, t1, t2, t3⟩ | with_reducible exact ⟨cell_put4 a0 (Nat.ne_of_lt (Nat.lt_of_lt_of_le hlt0 HGE.out)), cell_put4 a1 (Nat.ne_of_lt (Nat.lt_of_lt_of_le hlt0 HGE.out)), cell_put4 a2 (Nat.ne_of_lt (Nat.lt_of_lt_of_le hlt0 HGE.out)), cell_put4 a3 (Nat.ne_of_lt (Nat.lt_of_lt_of_le hlt0 HGE.out)), cell_put4 t0 (Nat.ne_of_lt (Nat.lt_of_lt_of_le hlt1 HGE.out)), cell_put4 t1 (Nat.ne_of_lt (Nat.lt_of_lt_of_le hlt1 HGE.out)), cell_put4 t2 (Nat.ne_of_lt (Nat.lt_of_lt_of_le hlt1 HGE.out)), cell_put4 t3 (Nat.ne_of_lt (Nat.lt_of_lt_of_le hlt1 HGE.out))⟩ | go_keep)
      (first | (go_at_call 89; go_loud (refine (HPow.out _ (HF.out.ch (by repeat (with_reducible first | exact Chg.refl _ _ | apply Chg.drew | apply Chg.drewN | apply Chg.alloc)))).mono ?_; rintro e w3 ⟨rfl, hC3⟩; have hC4 := Chg.trans (S := []) (a := w1) (by repeat (with_reducible first | exact HC4.out | apply Chg.drew | apply Chg.drewN | apply Chg.alloc)) hC3; (first | (with_reducible have hN3 := HN3.out.chg hC3 nmN; clear HN3; obtain ⟨n0, n1, n2, n3⟩ := four4 fun _ => (hN3).cell; have nz0 := (hN3).fz 0; have nz1 := (hN3).fz 1; have nz2 := (hN3).fz 2; have nz3 := (hN3).fz 3; have HN3 := Lib.hid hN3; clear hN3) | (with_reducible (first | have hN3 := U4.kept hC3 | have hN3 := U4.kept1 hC3 | have hN3 := U4.kept2 hC3); have HGE := Lib.hid (HC4.out.size); obtain ⟨n0, n1, n2, n3⟩ := four4 fun _ => (hN3).cell; have nz0 := (hN3).fz 0; have nz1 := (hN3).fz 1; have nz2 := (hN3).fz 2; have nz3 := (hN3).fz 3; have HN3 := Lib.hid hN3; clear hN3) | skip); have hsz := hC4.size; replace a0 := hC4.cell H9a0.out nmN; replace a1 := hC4.cell H9a1.out nmN; replace a2 := hC4.cell H9a2.out nmN; replace a3 := hC4.cell H9a3.out nmN; replace t0 := hC4.cell H9t0.out nmN; replace t1 := hC4.cell H9t1.out nmN; replace t2 := hC4.cell H9t2.out nmN; replace t3 := hC4.cell H9t3.out nmN; clear HC4 hC3; have HC4 := Lib.hid hC4; clear hC4)))
    all_goals (go_wp2_with fail; go_meet)
    all_goals (first | with_reducible exact ⟨_, rfl, rfl, U4.new _ _ _, HC4.out.alloc _, HC4.out.size⟩ | with_reducible exact ⟨_, rfl, rfl, U4.put_x HN3.out _, HC4.out.put_x (Or.inr HGE.out) _, HGE.out⟩)
  case rest =>
    obtain ⟨D, rfl, rfl, hN, hC1, hDge⟩ := hcut
    have hRl := HR.out.lt
    replace HA := Lib.hid (HA.out.chg hC1 nmN); replace HR := Lib.hid (HR.out.chg hC1 nmN); replace HC := Lib.hid (HC.out.trans hC1); replace HF := Lib.hid (HF.out.ch hC1)
    have HD := Lib.hid hN
    clear hC1 hN a0 a1 a2 a3 t0 t1 t2 t3
    obtain ⟨a0, a1, a2, a3⟩ := four4 fun _ => HA.out.cell
    obtain ⟨r0, r1, r2, r3⟩ := four4 fun _ => HD.out.cell
    go_upto_region 7 with fail
    refine abs_region (B := Chg [] wc) (S := Chg [] wc) (by kernel_rfl) ((Chg.refl _ _).drew) ?_
    have hG := good_chg [] wc
    refine Abs.take_np (i := 0) (d := some 33) (v := ?_) rfl rfl (by kernel_rfl) (by kernel_rfl) (by kernel_rfl) hG ⟨by rfl, fun w9 hw9 => Or.inl ?_⟩ ?_
    rotate_left
    · go_simp
      try with_reducible rfl
    simp only [Act.put, stA, stB, stC]
    refine Abs.take_np (i := 1) (d := some 34) (v := ?_) rfl rfl (by kernel_rfl) (by kernel_rfl) (by kernel_rfl) hG ⟨by rfl, fun w9 hw9 => Or.inl ?_⟩ ?_
    rotate_left
    · replace r0 := hw9.cell r0 nmN; replace r1 := hw9.cell r1 nmN; replace r2 := hw9.cell r2 nmN; replace r3 := hw9.cell r3 nmN
      go_simp
      try with_reducible rfl
    simp only [Act.put, stA, stB, stC]
    refine Abs.take_np (i := 2) (d := some 35) (v := ?_) rfl rfl (by kernel_rfl) (by kernel_rfl) (by kernel_rfl) hG ⟨by rfl, fun w9 hw9 => Or.inl ?_⟩ ?_
    rotate_left
    · replace r0 := hw9.cell r0 nmN; replace r1 := hw9.cell r1 nmN; replace r2 := hw9.cell r2 nmN; replace r3 := hw9.cell r3 nmN
      go_simp
      try with_reducible rfl
    simp only [Act.put, stA, stB, stC]
    refine Abs.take_np (i := 3) (d := some 36) (v := _) rfl rfl (by kernel_rfl) (by kernel_rfl) (by kernel_rfl) hG ⟨by rfl, fun w9 hw9 => Or.inr ⟨_, _, ?_, HTm.out w9 (HF.out.ch hw9)⟩⟩ ?_
    · go_simp
      try with_reducible rfl
    simp only [Act.put, stA, stB, stC]
    refine Abs.take_np (i := 4) (d := some 37) (v := ?_) rfl rfl (by kernel_rfl) (by kernel_rfl) (by kernel_rfl) hG ⟨by rfl, fun w9 hw9 => Or.inl ?_⟩ ?_
    rotate_left
    · replace a0 := hw9.cell a0 nmN; replace a1 := hw9.cell a1 nmN; replace a2 := hw9.cell a2 nmN; replace a3 := hw9.cell a3 nmN
      go_simp
      try with_reducible rfl
    simp only [Act.put, stA, stB, stC]
    refine Abs.take_np (i := 5) (d := some 38) (v := ?_) rfl rfl (by kernel_rfl) (by kernel_rfl) (by kernel_rfl) hG ⟨by rfl, fun w9 hw9 => Or.inl ?_⟩ ?_
    rotate_left
    · go_simp
      try with_reducible rfl
    simp only [Act.put, stA, stB, stC]
    refine Abs.done (by kernel_rfl) (fun wx hx => NoPanic.normal ?_) _
    replace HA := Lib.hid (HA.out.chg hx nmN); replace HR := Lib.hid (HR.out.chg hx nmN); replace HC := Lib.hid (HC.out.trans hx); replace HF := Lib.hid (HF.out.ch hx); replace HD := Lib.hid (HD.out.chg hx nmN)
    clear hx a0 a1 a2 a3 r0 r1 r2 r3
    go_upto_region 8 with fail
    have hR9 := HR.out
    have hC9 := HC.out
    have q0 := hR9.cell (k := 0) (by omega); have qz0 := hR9.fz 0; have q1 := hR9.cell (k := 1) (by omega); have qz1 := hR9.fz 1; have q2 := hR9.cell (k := 2) (by omega); have qz2 := hR9.fz 2; have q3 := hR9.cell (k := 3) (by omega); have qz3 := hR9.fz 3
    have hll := hR9.lt
    have HF9 := Lib.hid (hR9.put (fun _ => 0)); have HCF := Lib.hid (hC9.put4 (b := B + 1) (Or.inr (by have := HwB.out; omega)) (fun _ => 0))
    clear hR9 hC9
    go_wp2_with fail
    have hF := HF9.out; have hCF := HCF.out
    refine (id ?_ : bodyPost _ _ _ _ _ (put4 wx (B + 1) (fun _ => 0)))
    clear HF9 HCF
    generalize put4 wx (B + 1) (fun _ => 0) = W5 at *
    obtain ⟨g0, g1, g2, g3⟩ := four4 fun _ => hF.cell
    exact bodyPost_ret (v := .tuple #[.agg #[.int .u64 0, .int .u64 0, .int .u64 0, .int .u64 0], .int .i64 22]) (by simp [results, Try.results62, go_sem, g0, g1, g2, g3]) rfl ⟨rfl, hCF⟩

set_option maxRecDepth 100000 in
set_option maxHeartbeats 8000000 in
theorem field_sqrt_ok {f fa m v ri q a : Nat} (hW : Way m v ri) (h1 : 1 < m) (hq : q < B6 ^ 4) (hq0 : q ≠ 0) (ha : a < m) (hr :  (a ^ q % m) * (a ^ q % m) % m = a) (w : World) (hF : Fd w f fa m v q) :
    Calls Try.prog 62 #[.pointer (some ⟨f, 0, none⟩), .agg #[.int .u64 (lm a 0 : Nat), .int .u64 (lm a 1 : Nat), .int .u64 (lm a 2 : Nat), .int .u64 (lm a 3 : Nat)]] w fun e w' => e = .returned (.tuple #[.agg #[.int .u64 (lm (evR m (a ^ q % m)) 0 : Nat), .int .u64 (lm (evR m (a ^ q % m)) 1 : Nat), .int .u64 (lm (evR m (a ^ q % m)) 2 : Nat), .int .u64 (lm (evR m (a ^ q % m)) 3 : Nat)], .int .i64 0]) ∧ Chg [] w w' := by
  have ha4 := Nat.lt_trans ha hW.lt
  have hz4 : ∀ y, y % m < m := fun y => Nat.mod_lt y (by omega)
  have hck := fun w hF => field_check (m := m) (f := f) hW.lt ha4 w hF
  rw [show chkN a m = 0 from if_pos ha] at hck
  have hpow := fun w hF => field_pow (f := f) (a := fa) (root := q) hW ha hq w hF
  have hrl := hz4 (a ^ q)
  obtain ⟨r, hre⟩ : ∃ r, a ^ q % m = r := ⟨_, rfl⟩
  rw [hre] at hpow hrl hr
  have htm := fun w hF => field_times (f := f) (a := fa) (root := q) hW hrl hrl w hF
  have hmin := fun w hF => field_minus (f := f) (x := 0) (y := r) hW.lt (by omega) hrl w hF
  have hsel := fun w => limb_sel (lm r 0) (lm_lt r 0) ((0 + m - r) % m) r w
  have hpar : lm r 0 % 2 = r % 2 := by
    have h := bit_nat r 0 0 0 (by omega) (by omega)
    rwa [Nat.pow_zero, Nat.div_one, Nat.div_one] at h
  rw [hpar, show (if r % 2 = 1 then (0 + m - r) % m else r) = evR m r from rfl] at hsel
  have hr4 : r * r % m < B6 ^ 4 := Nat.lt_trans (hz4 _) hW.lt
  have eq1 := fun w => num_eq hr4 ha4 w
  have eq0 := fun w => num_eq0 hq w
  rw [decide_eq_false hq0] at eq0
  rw [decide_eq_true hr] at eq1
  obtain ⟨rr, hrr⟩ : ∃ rr, r * r % m = rr := ⟨_, rfl⟩
  rw [hrr] at htm eq1
  obtain ⟨ng, hng⟩ : ∃ ng, (0 + m - r) % m = ng := ⟨_, rfl⟩
  rw [hng] at hmin hsel
  rw [hre]
  obtain ⟨z, hz⟩ : ∃ z, evR m r = z := ⟨_, rfl⟩
  rw [hz] at hsel ⊢
  rw [num_zero] at hmin
  unfold num limbs at hck hpow htm hmin hsel
  have HCk := Lib.hid hck; have HPow := Lib.hid hpow; have HTm := Lib.hid htm; have HMin := Lib.hid hmin; have HSel := Lib.hid hsel
  have hfl := lt_of_has hF.1
  have hal := lt_of_has hF.2
  clear ha4 hz4 hck hpow hrl hre hr htm hmin hsel hpar hr4 hrr hng hz ha hq hq0 h1 hW
  obtain ⟨W0, hW0⟩ : ∃ W0, (w.alloc (.cells #[.int .u64 (lm a 0 : Nat), .int .u64 (lm a 1 : Nat), .int .u64 (lm a 2 : Nat), .int .u64 (lm a 3 : Nat)] 24)).alloc (.cells #[.int .u64 0, .int .u64 0, .int .u64 0, .int .u64 0] 24) = W0 := ⟨_, rfl⟩
  obtain ⟨B, hB⟩ : ∃ B, w.heap.size = B := ⟨_, rfl⟩
  rw [hB] at hfl hal
  have HA := Lib.hid (show U4 W0 B 24 (lm a) by rw [← hW0, ← hB]; exact has_alloc (has_alloc_new _ _))
  have HR := Lib.hid (show U4 W0 (B + 1) 24 (fun _ => 0) by rw [← hW0, ← hB]; exact has_alloc_at (by simp))
  have HC := Lib.hid (show Chg [] w W0 by rw [← hW0]; exact ((Chg.refl _ _).alloc _).alloc _)
  replace hF := hF.ch HC.out
  have HF := Lib.hid hF
  clear hF
  go_enter Try.func62, Try.ntmps62
  go_upto_region 1 with fail
  try rw [hW0]
  try rw [hB]
  have HwB := Lib.hid (Nat.le_of_eq hB)
  clear hW0 hB
  obtain ⟨a0, a1, a2, a3⟩ := four4 fun _ => HA.out.cell
  go_wp2_with fail
  refine (HCk.out _ HF.out.m4).mono ?_
  rintro e w1 ⟨rfl, hC1⟩
  replace HA := Lib.hid (HA.out.chg hC1 nmN); replace HR := Lib.hid (HR.out.chg hC1 nmN); replace HC := Lib.hid (HC.out.trans hC1); replace HF := Lib.hid (HF.out.ch hC1)
  clear hC1 a0 a1 a2 a3
  obtain ⟨a0, a1, a2, a3⟩ := four4 fun _ => HA.out.cell
  have t0 : w1.cell? ⟨f, 5, none⟩ = some (.int .u64 (lm q 0 : Nat)) := HF.out.r4 0 (by decide)
  have t1 : w1.cell? ⟨f, 6, none⟩ = some (.int .u64 (lm q 1 : Nat)) := HF.out.r4 1 (by decide)
  have t2 : w1.cell? ⟨f, 7, none⟩ = some (.int .u64 (lm q 2 : Nat)) := HF.out.r4 2 (by decide)
  have t3 : w1.cell? ⟨f, 8, none⟩ = some (.int .u64 (lm q 3 : Nat)) := HF.out.r4 3 (by decide)
  go_upto_region 6 with fail
  go_cut [7, 8] from 23 to 32 (fun cv lv wx => ∃ cb, cv = .pointer (some ⟨cb, 0, none⟩) ∧ lv = .int .i64 0 ∧ U4 wx cb 24 (lm (r)) ∧ Chg [] w1 wx ∧ w1.heap.size ≤ cb)
  case first =>
    have hlt0 : B < w1.heap.size := World.block_lt_of_cell? _ _ a0
    have hlt1 : f < w1.heap.size := World.block_lt_of_cell? _ _ t0
    have HC4 := Lib.hid (Chg.refl [] w1)
    have H9a0 := Lib.hid a0; have H9a1 := Lib.hid a1; have H9a2 := Lib.hid a2; have H9a3 := Lib.hid a3; have H9t0 := Lib.hid t0; have H9t1 := Lib.hid t1; have H9t2 := Lib.hid t2; have H9t3 := Lib.hid t3
    go_region_held3 (fun w9 => w9.cell? ⟨B, 0, none⟩ = some (.int .u64 (lm a 0 : Nat)) ∧ w9.cell? ⟨B, 1, none⟩ = some (.int .u64 (lm a 1 : Nat)) ∧ w9.cell? ⟨B, 2, none⟩ = some (.int .u64 (lm a 2 : Nat)) ∧ w9.cell? ⟨B, 3, none⟩ = some (.int .u64 (lm a 3 : Nat)) ∧ w9.cell? ⟨f, 5, none⟩ = some (.int .u64 (lm q 0 : Nat)) ∧ w9.cell? ⟨f, 6, none⟩ = some (.int .u64 (lm q 1 : Nat)) ∧ w9.cell? ⟨f, 7, none⟩ = some (.int .u64 (lm q 2 : Nat)) ∧ w9.cell? ⟨f, 8, none⟩ = some (.int .u64 (lm q 3 : Nat)))
      (first | with_reducible exact ⟨a0, a1, a2, a3, t0, t1, t2, t3⟩ | with_reducible exact ⟨cell_put4 a0 (Nat.ne_of_lt (Nat.lt_of_lt_of_le hlt0 HGE.out)), cell_put4 a1 (Nat.ne_of_lt (Nat.lt_of_lt_of_le hlt0 HGE.out)), cell_put4 a2 (Nat.ne_of_lt (Nat.lt_of_lt_of_le hlt0 HGE.out)), cell_put4 a3 (Nat.ne_of_lt (Nat.lt_of_lt_of_le hlt0 HGE.out)), cell_put4 t0 (Nat.ne_of_lt (Nat.lt_of_lt_of_le hlt1 HGE.out)), cell_put4 t1 (Nat.ne_of_lt (Nat.lt_of_lt_of_le hlt1 HGE.out)), cell_put4 t2 (Nat.ne_of_lt (Nat.lt_of_lt_of_le hlt1 HGE.out)), cell_put4 t3 (Nat.ne_of_lt (Nat.lt_of_lt_of_le hlt1 HGE.out))⟩ | go_keep)
      (first | (go_at_call 89; go_loud (refine (HPow.out _ (HF.out.ch (by repeat (with_reducible first | exact Chg.refl _ _ | apply Chg.drew | apply Chg.drewN | apply Chg.alloc)))).mono ?_; rintro e w3 ⟨rfl, hC3⟩; have hC4 := Chg.trans (S := []) (a := w1) (by repeat (with_reducible first | exact HC4.out | apply Chg.drew | apply Chg.drewN | apply Chg.alloc)) hC3; (first | (with_reducible have hN3 := HN3.out.chg hC3 nmN; clear HN3; obtain ⟨n0, n1, n2, n3⟩ := four4 fun _ => (hN3).cell; have nz0 := (hN3).fz 0; have nz1 := (hN3).fz 1; have nz2 := (hN3).fz 2; have nz3 := (hN3).fz 3; have HN3 := Lib.hid hN3; clear hN3) | (with_reducible (first | have hN3 := U4.kept hC3 | have hN3 := U4.kept1 hC3 | have hN3 := U4.kept2 hC3); have HGE := Lib.hid (HC4.out.size); obtain ⟨n0, n1, n2, n3⟩ := four4 fun _ => (hN3).cell; have nz0 := (hN3).fz 0; have nz1 := (hN3).fz 1; have nz2 := (hN3).fz 2; have nz3 := (hN3).fz 3; have HN3 := Lib.hid hN3; clear hN3) | skip); have hsz := hC4.size; replace a0 := hC4.cell H9a0.out nmN; replace a1 := hC4.cell H9a1.out nmN; replace a2 := hC4.cell H9a2.out nmN; replace a3 := hC4.cell H9a3.out nmN; replace t0 := hC4.cell H9t0.out nmN; replace t1 := hC4.cell H9t1.out nmN; replace t2 := hC4.cell H9t2.out nmN; replace t3 := hC4.cell H9t3.out nmN; clear HC4 hC3; have HC4 := Lib.hid hC4; clear hC4)))
    all_goals (go_wp2_with fail; go_meet)
    all_goals (first | with_reducible exact ⟨_, rfl, rfl, U4.new _ _ _, HC4.out.alloc _, HC4.out.size⟩ | with_reducible exact ⟨_, rfl, rfl, U4.put_x HN3.out _, HC4.out.put_x (Or.inr HGE.out) _, HGE.out⟩)
  case rest =>
    obtain ⟨D, rfl, rfl, hN, hC1, hDge⟩ := hcut
    have hRl := HR.out.lt
    replace HA := Lib.hid (HA.out.chg hC1 nmN); replace HR := Lib.hid (HR.out.chg hC1 nmN); replace HC := Lib.hid (HC.out.trans hC1); replace HF := Lib.hid (HF.out.ch hC1)
    have HD := Lib.hid hN
    clear hC1 hN a0 a1 a2 a3 t0 t1 t2 t3
    obtain ⟨a0, a1, a2, a3⟩ := four4 fun _ => HA.out.cell
    obtain ⟨r0, r1, r2, r3⟩ := four4 fun _ => HD.out.cell
    go_upto_region 7 with fail
    refine abs_region (B := Chg [] wc) (S := Chg [] wc) (by kernel_rfl) ((Chg.refl _ _).drew) ?_
    have hG := good_chg [] wc
    refine Abs.take_np (i := 0) (d := some 33) (v := ?_) rfl rfl (by kernel_rfl) (by kernel_rfl) (by kernel_rfl) hG ⟨by rfl, fun w9 hw9 => Or.inl ?_⟩ ?_
    rotate_left
    · go_simp
      try with_reducible rfl
    simp only [Act.put, stA, stB, stC]
    refine Abs.take_np (i := 1) (d := some 34) (v := ?_) rfl rfl (by kernel_rfl) (by kernel_rfl) (by kernel_rfl) hG ⟨by rfl, fun w9 hw9 => Or.inl ?_⟩ ?_
    rotate_left
    · replace r0 := hw9.cell r0 nmN; replace r1 := hw9.cell r1 nmN; replace r2 := hw9.cell r2 nmN; replace r3 := hw9.cell r3 nmN
      go_simp
      try with_reducible rfl
    simp only [Act.put, stA, stB, stC]
    refine Abs.take_np (i := 2) (d := some 35) (v := ?_) rfl rfl (by kernel_rfl) (by kernel_rfl) (by kernel_rfl) hG ⟨by rfl, fun w9 hw9 => Or.inl ?_⟩ ?_
    rotate_left
    · replace r0 := hw9.cell r0 nmN; replace r1 := hw9.cell r1 nmN; replace r2 := hw9.cell r2 nmN; replace r3 := hw9.cell r3 nmN
      go_simp
      try with_reducible rfl
    simp only [Act.put, stA, stB, stC]
    refine Abs.take_np (i := 3) (d := some 36) (v := _) rfl rfl (by kernel_rfl) (by kernel_rfl) (by kernel_rfl) hG ⟨by rfl, fun w9 hw9 => Or.inr ⟨_, _, ?_, HTm.out w9 (HF.out.ch hw9)⟩⟩ ?_
    · go_simp
      try with_reducible rfl
    simp only [Act.put, stA, stB, stC]
    refine Abs.take_np (i := 4) (d := some 37) (v := ?_) rfl rfl (by kernel_rfl) (by kernel_rfl) (by kernel_rfl) hG ⟨by rfl, fun w9 hw9 => Or.inl ?_⟩ ?_
    rotate_left
    · replace a0 := hw9.cell a0 nmN; replace a1 := hw9.cell a1 nmN; replace a2 := hw9.cell a2 nmN; replace a3 := hw9.cell a3 nmN
      go_simp
      try with_reducible rfl
    simp only [Act.put, stA, stB, stC]
    refine Abs.take_np (i := 5) (d := some 38) (v := ?_) rfl rfl (by kernel_rfl) (by kernel_rfl) (by kernel_rfl) hG ⟨by rfl, fun w9 hw9 => Or.inl ?_⟩ ?_
    rotate_left
    · go_simp
      try with_reducible rfl
    simp only [Act.put, stA, stB, stC]
    refine Abs.done (by kernel_rfl) (fun wx hx => NoPanic.normal ?_) _
    replace HA := Lib.hid (HA.out.chg hx nmN); replace HR := Lib.hid (HR.out.chg hx nmN); replace HC := Lib.hid (HC.out.trans hx); replace HF := Lib.hid (HF.out.ch hx); replace HD := Lib.hid (HD.out.chg hx nmN)
    clear hx a0 a1 a2 a3 r0 r1 r2 r3
    obtain ⟨r0, r1, r2, r3⟩ := four4 fun _ => HD.out.cell
    have hRz := R4.ret HR.out
    obtain ⟨R, hRe⟩ : ∃ R, B + 1 = R := ⟨_, rfl⟩
    rw [hRe] at hRz ⊢
    have hDR : R < D := by omega
    go_upto_region 9 with fail
    refine abs_region (B := Chg [R] wx) (S := fun w => Chg [R] wx w ∧ w.heap[R]? = some (.cells #[.int .u64 0, .int .u64 0, .int .u64 0, .int .u64 0] 24 (0, 0))) (by kernel_rfl) ⟨(Chg.refl _ _).drew, hRz⟩ ?_
    have hG := good_at [R] wx R (.cells #[.int .u64 0, .int .u64 0, .int .u64 0, .int .u64 0] 24 (0, 0))
    refine Abs.take_np (i := 0) (d := some 40) (v := ?_) rfl rfl (by kernel_rfl) (by kernel_rfl) (by kernel_rfl) hG ⟨by rfl, fun w9 hw9 => Or.inl ?_⟩ ?_
    rotate_left
    · go_simp
      try with_reducible rfl
    simp only [Act.put, stA, stB, stC]
    refine Abs.take_np (i := 1) (d := some 41) (v := ?_) rfl rfl (by kernel_rfl) (by kernel_rfl) (by kernel_rfl) hG ⟨by rfl, fun w9 hw9 => Or.inl ?_⟩ ?_
    rotate_left
    · replace r0 := hw9.cell r0 (by simp; omega)
      go_simp
      try with_reducible rfl
    simp only [Act.put, stA, stB, stC]
    refine Abs.take_np (i := 2) (d := some 42) (v := ?_) rfl rfl (by kernel_rfl) (by kernel_rfl) (by kernel_rfl) hG ⟨by rfl, fun w9 hw9 => Or.inl ?_⟩ ?_
    rotate_left
    · go_simp
      try with_reducible rfl
    simp only [Act.put, stA, stB, stC]
    refine Abs.take_np (i := 3) (d := some 43) (v := ?_) rfl rfl (by kernel_rfl) (by kernel_rfl) (by kernel_rfl) hG ⟨by rfl, fun w9 hw9 => Or.inl ?_⟩ ?_
    rotate_left
    · go_simp
      try with_reducible rfl
    simp only [Act.put, stA, stB, stC]
    refine Abs.take_np (i := 4) (d := some 44) (v := ?_) rfl rfl (by kernel_rfl) (by kernel_rfl) (by kernel_rfl) hG ⟨by rfl, fun w9 hw9 => Or.inl ?_⟩ ?_
    rotate_left
    · replace r0 := hw9.cell r0 (by simp; omega); replace r1 := hw9.cell r1 (by simp; omega); replace r2 := hw9.cell r2 (by simp; omega); replace r3 := hw9.cell r3 (by simp; omega)
      go_simp
      try with_reducible rfl
    simp only [Act.put, stA, stB, stC]
    refine Abs.take_np (i := 5) (d := some 45) (v := _) rfl rfl (by kernel_rfl) (by kernel_rfl) (by kernel_rfl) hG ⟨by rfl, fun w9 hw9 => Or.inr ⟨_, _, ?_, HMin.out w9 ((HF.out.chg hw9 (by simp; omega) (by simp; omega)).m4)⟩⟩ ?_
    · go_simp
      try with_reducible rfl
    simp only [Act.put, stA, stB, stC]
    refine Abs.take_np (i := 6) (d := some 46) (v := ?_) rfl rfl (by kernel_rfl) (by kernel_rfl) (by kernel_rfl) hG ⟨by rfl, fun w9 hw9 => Or.inl ?_⟩ ?_
    rotate_left
    · replace r0 := hw9.cell r0 (by simp; omega); replace r1 := hw9.cell r1 (by simp; omega); replace r2 := hw9.cell r2 (by simp; omega); replace r3 := hw9.cell r3 (by simp; omega)
      go_simp
      try with_reducible rfl
    simp only [Act.put, stA, stB, stC]
    refine Abs.take_np (i := 7) (d := some 47) (v := _) rfl rfl (by kernel_rfl) (by kernel_rfl) (by kernel_rfl) hG ⟨by rfl, fun w9 hw9 => Or.inr ⟨_, _, ?_, HSel.out w9⟩⟩ ?_
    · go_simp
      try with_reducible rfl
    simp only [Act.put, stA, stB, stC]
    refine Abs.store4 (i := 8) (b := R) (ds := #[.int .u64 (lm z 0 : Nat), .int .u64 (lm z 1 : Nat), .int .u64 (lm z 2 : Nat), .int .u64 (lm z 3 : Nat)]) rfl (by kernel_rfl) (by rfl) (fun w9 => (((w9.setCell ⟨R, 0, none⟩ (.int .u64 (lm z 0 : Nat))).setCell ⟨R, 1, none⟩ (.int .u64 (lm z 1 : Nat))).setCell ⟨R, 2, none⟩ (.int .u64 (lm z 2 : Nat))).setCell ⟨R, 3, none⟩ (.int .u64 (lm z 3 : Nat))) (fun w9 h9 => ⟨?_, ?_, ?_⟩) (fun _ _ h k => Chg.keeps (Or.inl (by simp)) h k) (good_chg [R] wx) (fun hG => ?_)
    · have n0 := cell_of_has h9 0; have n1 := cell_of_has h9 1; have n2 := cell_of_has h9 2; have n3 := cell_of_has h9 3
      simp only [glA, glB, glC] at n0 n1 n2 n3
      have z0 := frozen_of_has h9 0; have z1 := frozen_of_has h9 1; have z2 := frozen_of_has h9 2; have z3 := frozen_of_has h9 3
      clear h9
      go_simp
      try with_reducible rfl
    · exact U4.put_x (x := fun _ => 0) h9 z
    · exact Chg.put_x (Chg.refl _ _) (Or.inl (by simp)) z
    refine Abs.at_put (d := none) rfl ?_
    simp only [Act.put, stA, stB, stC]
    refine Abs.take_np (i := 9) (d := some 5) (v := ?_) rfl rfl (by kernel_rfl) (by kernel_rfl) (by kernel_rfl) hG ⟨by rfl, fun w9 hw9 => Or.inl ?_⟩ ?_
    rotate_left
    · go_simp
      try with_reducible rfl
    simp only [Act.put, stA, stB, stC]
    refine Abs.done (by kernel_rfl) (fun wy hx => NoPanic.normal ?_) _
    obtain ⟨hA, hN⟩ := hx
    have hCF : Chg [] w wy := HC.out.trans_new hA (by have := HwB.out; simp; omega)
    have g0 := cell_of_has hN 0; have g1 := cell_of_has hN 1; have g2 := cell_of_has hN 2; have g3 := cell_of_has hN 3
    simp only [glA, glB, glC] at g0 g1 g2 g3
    go_wp2_with fail
    exact bodyPost_ret (v := .tuple #[.agg #[.int .u64 (lm z 0 : Nat), .int .u64 (lm z 1 : Nat), .int .u64 (lm z 2 : Nat), .int .u64 (lm z 3 : Nat)], .int .i64 0]) (by simp [results, Try.results62, go_sem, g0, g1, g2, g3]) rfl ⟨rfl, hCF⟩

end Go.Proofs.Ytplldbmjdnikeaa
