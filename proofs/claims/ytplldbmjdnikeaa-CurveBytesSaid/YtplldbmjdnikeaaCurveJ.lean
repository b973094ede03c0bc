/- The walks of curve.Add, Neg, G. Printed by addp.py. -/
import Derived.Test.YtplldbmjdnikeaaCu3
namespace Go.Proofs.Ytplldbmjdnikeaa
set_option linter.unusedVariables false
set_option linter.unusedSimpArgs false
open Go.RowKit

/-- A point in the plane. -/
def jrep : Pc → J
  | .inf => ⟨0, 0, 0⟩
  | .aff x y => ⟨x, y, 1⟩
theorem rep_jrep (P : Pc) : Rep (jrep P) P := by
  cases P with
  | inf => exact rep_zero
  | aff x y => exact rep_one x y
theorem plane_inP {l a : Nat} (P : Pc) (w : World) (hP : Pl w l a PP vP) :
    Calls Try.prog 34 #[.pointer (some ⟨l, 0, none⟩), .agg (pv (ofP P))] w fun e w' => e = .returned (.agg (jv (jrep P))) ∧ Chg [] w w' := by
  cases P with
  | inf => exact plane_in_inf 0 0 w hP
  | aff x y => exact plane_in x y w hP
theorem on_cub {x y : Fin PP} (h : (Pt.aff x y : Pc).on 7) : y * y = cub x := h
theorem check_ok {P : Pc} (hP : P.on 7) (w : World) : Calls Try.prog 15 #[.agg (pv (ofP P))] w fun e w' => e = .returned (.int .i64 0) ∧ Chg [] w w' := by
  cases P with
  | inf => exact check_inf w
  | aff x y => exact check_on (on_cub hP) w
theorem ne_of_types {w : World} {b c : Nat} {cs ds : Array Value} {t t' : TypeId} (h : w.heap[b]? = some (.cells cs t (0, 0))) (g : w.heap[c]? = some (.cells ds t' (0, 0))) (ht : t ≠ t') : b ≠ c := fun e => by
  rw [e, g] at h
  injection h with h
  injection h with _ h _
  exact ht h.symm
set_option maxHeartbeats 1000000 in
theorem U9.puty {w : World} {b x y : Nat} {i : Bool} (h : U9 w b x y i) (n : Nat) : U9 ((((w.setCell ⟨b, 4, none⟩ (.int .u64 (lm n 0 : Nat))).setCell ⟨b, 5, none⟩ (.int .u64 (lm n 1 : Nat))).setCell ⟨b, 6, none⟩ (.int .u64 (lm n 2 : Nat))).setCell ⟨b, 7, none⟩ (.int .u64 (lm n 3 : Nat))) b x n i := by
  have h0 := has_set h 4 (.int .u64 (lm n 0 : Nat))
  simp only [List.setIfInBounds_toArray, List.set_cons_zero, List.set_cons_succ] at h0
  have h1 := has_set h0 5 (.int .u64 (lm n 1 : Nat))
  simp only [List.setIfInBounds_toArray, List.set_cons_zero, List.set_cons_succ] at h1
  have h2 := has_set h1 6 (.int .u64 (lm n 2 : Nat))
  simp only [List.setIfInBounds_toArray, List.set_cons_zero, List.set_cons_succ] at h2
  have h3 := has_set h2 7 (.int .u64 (lm n 3 : Nat))
  simp only [List.setIfInBounds_toArray, List.set_cons_zero, List.set_cons_succ] at h3
  exact h3
theorem Chg.put_y {S : List Nat} {a w : World} (h : Chg S a w) {b : Nat} (hb : b ∈ S ∨ a.heap.size ≤ b) (n : Nat) : Chg S a ((((w.setCell ⟨b, 4, none⟩ (.int .u64 (lm n 0 : Nat))).setCell ⟨b, 5, none⟩ (.int .u64 (lm n 1 : Nat))).setCell ⟨b, 6, none⟩ (.int .u64 (lm n 2 : Nat))).setCell ⟨b, 7, none⟩ (.int .u64 (lm n 3 : Nat))) :=
  (((h.setCell hb _).setCell hb _).setCell hb _).setCell hb _
/-- No point of the curve. -/
def Bad (p : Pd) : Prop := p.x < B6 ^ 4 ∧ p.y < B6 ^ 4 ∧ ¬ ∃ P : Pc, P.on 7 ∧ p = ofP P
theorem check_bad {p : Pd} (h : Bad p) (w : World) : Calls Try.prog 15 #[.agg (pv p)] w fun e w' => e = .returned (.int .i64 30) ∧ Chg [] w w' := by
  obtain ⟨x, y, i⟩ := p
  obtain ⟨hx4, hy4, hb⟩ := h
  cases i with
  | true =>
    by_cases hx : x = 0
    · by_cases hy : y = 0
      · subst hx; subst hy
        exact absurd ⟨.inf, trivial, rfl⟩ hb
      · exact check_inf_y hx4 hy4 hx hy w
    · exact check_inf_x hx4 hx w
  | false =>
    by_cases hx : x < PP
    · by_cases hy : y < PP
      · by_cases he : (⟨y, hy⟩ : Fin PP) * ⟨y, hy⟩ = cub ⟨x, hx⟩
        · exact absurd ⟨.aff ⟨x, hx⟩ ⟨y, hy⟩, he, rfl⟩ hb
        · exact check_off he w
      · exact check_y hx4 hy4 hx hy w
    · exact check_x hx4 hx w

set_option maxRecDepth 100000 in
set_option maxHeartbeats 8000000 in
theorem curve_add {P Q : Pc} (hP : P.on 7) (hQ : Q.on 7) (w : World) :
    Calls Try.prog 11 #[.agg (pv (ofP P)), .agg (pv (ofP Q))] w fun e w' => e = .returned (.tuple #[.agg (pv (ofP (addP P Q))), .int .i64 0]) ∧ Chg [] w w' := by
  have hr := rep_out (rep_pl hP hQ (rep_jrep P) (rep_jrep Q))
  have c1 := fun w => check_ok hP w
  have c2 := fun w => check_ok hQ w
  have i1 := fun l a w (hL : Pl w l a PP vP) => plane_inP P w hL
  have i2 := fun l a w (hL : Pl w l a PP vP) => plane_inP Q w hL
  have i3 := fun l a w (hL : Pl w l a PP vP) => plane_plus (jrep P) (jrep Q) w hL
  have i4 := fun l a w (hL : Pl w l a PP vP) => plane_out (jpl (jrep P) (jrep Q)) w hL
  rw [hr] at i4
  obtain ⟨px, hpx⟩ : ∃ t, (ofP P).x = t := ⟨_, rfl⟩
  obtain ⟨py, hpy⟩ : ∃ t, (ofP P).y = t := ⟨_, rfl⟩
  obtain ⟨pi, hpi⟩ : ∃ t, (ofP P).inf = t := ⟨_, rfl⟩
  obtain ⟨qx, hqx⟩ : ∃ t, (ofP Q).x = t := ⟨_, rfl⟩
  obtain ⟨qy, hqy⟩ : ∃ t, (ofP Q).y = t := ⟨_, rfl⟩
  obtain ⟨qi, hqi⟩ : ∃ t, (ofP Q).inf = t := ⟨_, rfl⟩
  obtain ⟨rx, hrx⟩ : ∃ t, (ofP (addP P Q)).x = t := ⟨_, rfl⟩
  obtain ⟨ry, hry⟩ : ∃ t, (ofP (addP P Q)).y = t := ⟨_, rfl⟩
  obtain ⟨ri, hri⟩ : ∃ t, (ofP (addP P Q)).inf = t := ⟨_, rfl⟩
  have ep : pv (ofP P) = #[.int .u64 (lm px 0 : Nat), .int .u64 (lm px 1 : Nat), .int .u64 (lm px 2 : Nat), .int .u64 (lm px 3 : Nat), .int .u64 (lm py 0 : Nat), .int .u64 (lm py 1 : Nat), .int .u64 (lm py 2 : Nat), .int .u64 (lm py 3 : Nat), .bool pi] := by unfold pv; rw [hpx, hpy, hpi]
  have eq : pv (ofP Q) = #[.int .u64 (lm qx 0 : Nat), .int .u64 (lm qx 1 : Nat), .int .u64 (lm qx 2 : Nat), .int .u64 (lm qx 3 : Nat), .int .u64 (lm qy 0 : Nat), .int .u64 (lm qy 1 : Nat), .int .u64 (lm qy 2 : Nat), .int .u64 (lm qy 3 : Nat), .bool qi] := by unfold pv; rw [hqx, hqy, hqi]
  have er : pv (ofP (addP P Q)) = #[.int .u64 (lm rx 0 : Nat), .int .u64 (lm rx 1 : Nat), .int .u64 (lm rx 2 : Nat), .int .u64 (lm rx 3 : Nat), .int .u64 (lm ry 0 : Nat), .int .u64 (lm ry 1 : Nat), .int .u64 (lm ry 2 : Nat), .int .u64 (lm ry 3 : Nat), .bool ri] := by unfold pv; rw [hrx, hry, hri]
  obtain ⟨ux, hux⟩ : ∃ t, mu (jrep P).x = t := ⟨_, rfl⟩
  obtain ⟨uy, huy⟩ : ∃ t, mu (jrep P).y = t := ⟨_, rfl⟩
  obtain ⟨uz, huz⟩ : ∃ t, mu (jrep P).z = t := ⟨_, rfl⟩
  have eu : jv (jrep P) = #[.int .u64 (lm ux 0 : Nat), .int .u64 (lm ux 1 : Nat), .int .u64 (lm ux 2 : Nat), .int .u64 (lm ux 3 : Nat), .int .u64 (lm uy 0 : Nat), .int .u64 (lm uy 1 : Nat), .int .u64 (lm uy 2 : Nat), .int .u64 (lm uy 3 : Nat), .int .u64 (lm uz 0 : Nat), .int .u64 (lm uz 1 : Nat), .int .u64 (lm uz 2 : Nat), .int .u64 (lm uz 3 : Nat)] := by unfold jv; rw [hux, huy, huz]
  obtain ⟨vx, hvx⟩ : ∃ t, mu (jrep Q).x = t := ⟨_, rfl⟩
  obtain ⟨vy, hvy⟩ : ∃ t, mu (jrep Q).y = t := ⟨_, rfl⟩
  obtain ⟨vz, hvz⟩ : ∃ t, mu (jrep Q).z = t := ⟨_, rfl⟩
  have ev : jv (jrep Q) = #[.int .u64 (lm vx 0 : Nat), .int .u64 (lm vx 1 : Nat), .int .u64 (lm vx 2 : Nat), .int .u64 (lm vx 3 : Nat), .int .u64 (lm vy 0 : Nat), .int .u64 (lm vy 1 : Nat), .int .u64 (lm vy 2 : Nat), .int .u64 (lm vy 3 : Nat), .int .u64 (lm vz 0 : Nat), .int .u64 (lm vz 1 : Nat), .int .u64 (lm vz 2 : Nat), .int .u64 (lm vz 3 : Nat)] := by unfold jv; rw [hvx, hvy, hvz]
  obtain ⟨sx, hsx⟩ : ∃ t, mu (jpl (jrep P) (jrep Q)).x = t := ⟨_, rfl⟩
  obtain ⟨sy, hsy⟩ : ∃ t, mu (jpl (jrep P) (jrep Q)).y = t := ⟨_, rfl⟩
  obtain ⟨sz, hsz⟩ : ∃ t, mu (jpl (jrep P) (jrep Q)).z = t := ⟨_, rfl⟩
  have es : jv (jpl (jrep P) (jrep Q)) = #[.int .u64 (lm sx 0 : Nat), .int .u64 (lm sx 1 : Nat), .int .u64 (lm sx 2 : Nat), .int .u64 (lm sx 3 : Nat), .int .u64 (lm sy 0 : Nat), .int .u64 (lm sy 1 : Nat), .int .u64 (lm sy 2 : Nat), .int .u64 (lm sy 3 : Nat), .int .u64 (lm sz 0 : Nat), .int .u64 (lm sz 1 : Nat), .int .u64 (lm sz 2 : Nat), .int .u64 (lm sz 3 : Nat)] := by unfold jv; rw [hsx, hsy, hsz]
  rw [ep] at c1 i1 ⊢
  rw [eq] at c2 i2 ⊢
  rw [er] at i4 ⊢
  rw [eu] at i1 i3
  rw [ev] at i2 i3
  rw [es] at i3 i4
  have C1 := Lib.hid c1; have C2 := Lib.hid c2; have I1 := Lib.hid i1; have I2 := Lib.hid i2; have I3 := Lib.hid i3; have I4 := Lib.hid i4; have HNew := Lib.hid new_plane
  clear c1 c2 i1 i2 i3 i4 hr ep eq er eu ev es hpx hpy hpi hqx hqy hqi hrx hry hri hux huy huz hvx hvy hvz hsx hsy hsz hP hQ
  obtain ⟨W0, hW0⟩ : ∃ W0, ((w.alloc (.cells #[.int .u64 (lm px 0 : Nat), .int .u64 (lm px 1 : Nat), .int .u64 (lm px 2 : Nat), .int .u64 (lm px 3 : Nat), .int .u64 (lm py 0 : Nat), .int .u64 (lm py 1 : Nat), .int .u64 (lm py 2 : Nat), .int .u64 (lm py 3 : Nat), .bool pi] 26)).alloc (.cells #[.int .u64 (lm qx 0 : Nat), .int .u64 (lm qx 1 : Nat), .int .u64 (lm qx 2 : Nat), .int .u64 (lm qx 3 : Nat), .int .u64 (lm qy 0 : Nat), .int .u64 (lm qy 1 : Nat), .int .u64 (lm qy 2 : Nat), .int .u64 (lm qy 3 : Nat), .bool qi] 26)).alloc (.cells #[.int .u64 0, .int .u64 0, .int .u64 0, .int .u64 0, .int .u64 0, .int .u64 0, .int .u64 0, .int .u64 0, .bool false] 26) = W0 := ⟨_, rfl⟩
  have Hp := Lib.hid (show U9 W0 (w.heap.size) px py pi by rw [← hW0]; exact has_alloc (has_alloc (has_alloc_new _ _)))
  have Hq := Lib.hid (show U9 W0 (w.heap.size + 1) qx qy qi by rw [← hW0]; exact has_alloc (has_alloc_at (by simp)))
  have HR := Lib.hid (show U9 W0 (w.heap.size + 1 + 1) 0 0 false from U9.zero (by rw [← hW0]; exact has_alloc_at (by simp)))
  have HC := Lib.hid (show Chg [] w W0 by rw [← hW0]; exact (((Chg.refl _ _).alloc _).alloc _).alloc _)
  obtain ⟨p0, p1, p2, p3, p4, p5, p6, p7, p8⟩ := (Hp.out).all
  obtain ⟨q0, q1, q2, q3, q4, q5, q6, q7, q8⟩ := (Hq.out).all
  go_enter Try.func11, Try.ntmps11
  go_wp2_with fail
  try rw [hW0]
  clear hW0
  obtain ⟨P0, hP⟩ : ∃ P, w.heap.size = P := ⟨_, rfl⟩
  rw [hP] at Hp Hq HR p0 p1 p2 p3 p4 p5 p6 p7 p8 q0 q1 q2 q3 q4 q5 q6 q7 q8 ⊢
  obtain ⟨R, hR⟩ : ∃ R, P0 + 1 + 1 = R := ⟨_, rfl⟩
  rw [hR] at HR ⊢
  have hRP : P0 < R := by omega
  have hRP2 : P0 + 1 < R := by omega
  have hPR : P0 ≤ R := by omega
  replace hP := Lib.hid hP
  replace hR := Lib.hid hR
  refine (C1.out _).mono ?_
  rintro e w1 ⟨rfl, hC1⟩
  clear p0 p1 p2 p3 p4 p5 p6 p7 p8
  clear q0 q1 q2 q3 q4 q5 q6 q7 q8
  replace Hp := Lib.hid (Hp.out.chg hC1 nmN)
  replace Hq := Lib.hid (Hq.out.chg hC1 nmN)
  replace HR := Lib.hid (HR.out.chg hC1 nmN)
  replace HC := Lib.hid (HC.out.trans hC1)
  clear hC1
  obtain ⟨p0, p1, p2, p3, p4, p5, p6, p7, p8⟩ := (Hp.out).all
  obtain ⟨q0, q1, q2, q3, q4, q5, q6, q7, q8⟩ := (Hq.out).all
  go_wp2_with fail
  refine (C2.out _).mono ?_
  rintro e w1 ⟨rfl, hC1⟩
  clear p0 p1 p2 p3 p4 p5 p6 p7 p8
  clear q0 q1 q2 q3 q4 q5 q6 q7 q8
  replace Hp := Lib.hid (Hp.out.chg hC1 nmN)
  replace Hq := Lib.hid (Hq.out.chg hC1 nmN)
  replace HR := Lib.hid (HR.out.chg hC1 nmN)
  replace HC := Lib.hid (HC.out.trans hC1)
  clear hC1
  obtain ⟨p0, p1, p2, p3, p4, p5, p6, p7, p8⟩ := (Hp.out).all
  obtain ⟨q0, q1, q2, q3, q4, q5, q6, q7, q8⟩ := (Hq.out).all
  go_wp2_with fail
  refine (HNew.out _).mono ?_
  rintro e w1 ⟨l, a, rfl, hC1, hL1⟩
  clear p0 p1 p2 p3 p4 p5 p6 p7 p8
  clear q0 q1 q2 q3 q4 q5 q6 q7 q8
  replace Hp := Lib.hid (Hp.out.chg hC1 nmN)
  replace Hq := Lib.hid (Hq.out.chg hC1 nmN)
  replace HR := Lib.hid (HR.out.chg hC1 nmN)
  replace HC := Lib.hid (HC.out.trans hC1)
  have HL := Lib.hid hL1
  have hll := lt_of_has hL1.1
  have hlR := HR.out.lt
  clear hC1 hL1
  obtain ⟨p0, p1, p2, p3, p4, p5, p6, p7, p8⟩ := (Hp.out).all
  obtain ⟨q0, q1, q2, q3, q4, q5, q6, q7, q8⟩ := (Hq.out).all
  have hRz := HR.out
  unfold U9 at hRz
  have hnl : ¬ l = R := ne_of_types HL.out.1 hRz (by decide)
  have hna : ¬ a = R := ne_of_types HL.out.2 hRz (by decide)
  rw [lm_zero, lm_zero, lm_zero, lm_zero] at hRz
  clear hll hlR
  go_upto_region 4 with fail
  refine abs_region (B := Chg [R] w1) (S := fun w => Chg [R] w1 w ∧ w.heap[R]? = some (.cells #[.int .u64 0, .int .u64 0, .int .u64 0, .int .u64 0, .int .u64 0, .int .u64 0, .int .u64 0, .int .u64 0, .bool false] 26 (0, 0))) (by kernel_rfl) ⟨(Chg.refl _ _).drew, hRz⟩ ?_
  have hG := good_at [R] w1 R (.cells #[.int .u64 0, .int .u64 0, .int .u64 0, .int .u64 0, .int .u64 0, .int .u64 0, .int .u64 0, .int .u64 0, .bool false] 26 (0, 0))
  refine Abs.take_at (i := 0) (d := some 17) (v := ?_) rfl rfl (by kernel_rfl) (by kernel_rfl) (by kernel_rfl) (fun _ _ _ h => h) hG ⟨by rfl, fun w9 hw9 => Or.inl ?_⟩ ?_
  rotate_left
  · go_simp
    try with_reducible rfl
  simp only [Act.put, stA, stB, stC]
  refine Abs.take_at (i := 1) (d := some 18) (v := ?_) rfl rfl (by kernel_rfl) (by kernel_rfl) (by kernel_rfl) (fun _ _ _ h => h) hG ⟨by rfl, fun w9 hw9 => Or.inl ?_⟩ ?_
  rotate_left
  · go_simp
    try with_reducible rfl
  simp only [Act.put, stA, stB, stC]
  refine Abs.take_at (i := 2) (d := some 19) (v := ?_) rfl rfl (by kernel_rfl) (by kernel_rfl) (by kernel_rfl) (fun _ _ _ h => h) hG ⟨by rfl, fun w9 hw9 => Or.inl ?_⟩ ?_
  rotate_left
  · go_simp
    try with_reducible rfl
  simp only [Act.put, stA, stB, stC]
  refine Abs.take_at (i := 3) (d := some 20) (v := ?_) rfl rfl (by kernel_rfl) (by kernel_rfl) (by kernel_rfl) (fun _ _ _ h => h) hG ⟨by rfl, fun w9 hw9 => Or.inl ?_⟩ ?_
  rotate_left
  · replace p0 := hw9.cell p0 (by simp; omega); replace p1 := hw9.cell p1 (by simp; omega); replace p2 := hw9.cell p2 (by simp; omega); replace p3 := hw9.cell p3 (by simp; omega); replace p4 := hw9.cell p4 (by simp; omega); replace p5 := hw9.cell p5 (by simp; omega); replace p6 := hw9.cell p6 (by simp; omega); replace p7 := hw9.cell p7 (by simp; omega); replace p8 := hw9.cell p8 (by simp; omega)
    go_simp
    try with_reducible rfl
  simp only [Act.put, stA, stB, stC]
  refine Abs.take_at (i := 4) (d := some 21) (v := _) rfl rfl (by kernel_rfl) (by kernel_rfl) (by kernel_rfl) (fun _ _ _ h => h) hG ⟨by rfl, fun w9 hw9 => Or.inr ⟨_, _, ?_, I1.out l a w9 (HL.out.chS hw9 (by simpa using hnl) (by simpa using hna))⟩⟩ ?_
  · go_simp
    try with_reducible rfl
  simp only [Act.put, stA, stB, stC]
  refine Abs.take_at (i := 5) (d := some 22) (v := ?_) rfl rfl (by kernel_rfl) (by kernel_rfl) (by kernel_rfl) (fun _ _ _ h => h) hG ⟨by rfl, fun w9 hw9 => Or.inl ?_⟩ ?_
  rotate_left
  · go_simp
    try with_reducible rfl
  simp only [Act.put, stA, stB, stC]
  refine Abs.take_at (i := 6) (d := some 23) (v := ?_) rfl rfl (by kernel_rfl) (by kernel_rfl) (by kernel_rfl) (fun _ _ _ h => h) hG ⟨by rfl, fun w9 hw9 => Or.inl ?_⟩ ?_
  rotate_left
  · replace q0 := hw9.cell q0 (by simp; omega); replace q1 := hw9.cell q1 (by simp; omega); replace q2 := hw9.cell q2 (by simp; omega); replace q3 := hw9.cell q3 (by simp; omega); replace q4 := hw9.cell q4 (by simp; omega); replace q5 := hw9.cell q5 (by simp; omega); replace q6 := hw9.cell q6 (by simp; omega); replace q7 := hw9.cell q7 (by simp; omega); replace q8 := hw9.cell q8 (by simp; omega)
    go_simp
    try with_reducible rfl
  simp only [Act.put, stA, stB, stC]
  refine Abs.take_at (i := 7) (d := some 24) (v := _) rfl rfl (by kernel_rfl) (by kernel_rfl) (by kernel_rfl) (fun _ _ _ h => h) hG ⟨by rfl, fun w9 hw9 => Or.inr ⟨_, _, ?_, I2.out l a w9 (HL.out.chS hw9 (by simpa using hnl) (by simpa using hna))⟩⟩ ?_
  · go_simp
    try with_reducible rfl
  simp only [Act.put, stA, stB, stC]
  refine Abs.take_at (i := 8) (d := some 25) (v := _) rfl rfl (by kernel_rfl) (by kernel_rfl) (by kernel_rfl) (fun _ _ _ h => h) hG ⟨by rfl, fun w9 hw9 => Or.inr ⟨_, _, ?_, I3.out l a w9 (HL.out.chS hw9 (by simpa using hnl) (by simpa using hna))⟩⟩ ?_
  · go_simp
    try with_reducible rfl
  simp only [Act.put, stA, stB, stC]
  refine Abs.take_at (i := 9) (d := some 26) (v := _) rfl rfl (by kernel_rfl) (by kernel_rfl) (by kernel_rfl) (fun _ _ _ h => h) hG ⟨by rfl, fun w9 hw9 => Or.inr ⟨_, _, ?_, I4.out l a w9 (HL.out.chS hw9 (by simpa using hnl) (by simpa using hna))⟩⟩ ?_
  · go_simp
    try with_reducible rfl
  simp only [Act.put, stA, stB, stC]
  refine Abs.store4 (i := 10) (b := R) (ds := #[.int .u64 (lm rx 0 : Nat), .int .u64 (lm rx 1 : Nat), .int .u64 (lm rx 2 : Nat), .int .u64 (lm rx 3 : Nat), .int .u64 (lm ry 0 : Nat), .int .u64 (lm ry 1 : Nat), .int .u64 (lm ry 2 : Nat), .int .u64 (lm ry 3 : Nat), .bool ri]) rfl (by kernel_rfl) (by rfl) (fun w9 => (((((((((w9.setCell ⟨R, 0, none⟩ (.int .u64 (lm rx 0 : Nat))).setCell ⟨R, 1, none⟩ (.int .u64 (lm rx 1 : Nat))).setCell ⟨R, 2, none⟩ (.int .u64 (lm rx 2 : Nat))).setCell ⟨R, 3, none⟩ (.int .u64 (lm rx 3 : Nat))).setCell ⟨R, 4, none⟩ (.int .u64 (lm ry 0 : Nat))).setCell ⟨R, 5, none⟩ (.int .u64 (lm ry 1 : Nat))).setCell ⟨R, 6, none⟩ (.int .u64 (lm ry 2 : Nat))).setCell ⟨R, 7, none⟩ (.int .u64 (lm ry 3 : Nat))).setCell ⟨R, 8, none⟩ (.bool ri))) (fun w9 h9 => ⟨?_, ?_, ?_⟩) (fun _ _ h k => Chg.keeps (Or.inl (by simp)) h k) (good_chg [R] w1) (fun hG => ?_)
  · have n0 := cell_of_has h9 0; have n1 := cell_of_has h9 1; have n2 := cell_of_has h9 2; have n3 := cell_of_has h9 3; have n4 := cell_of_has h9 4; have n5 := cell_of_has h9 5; have n6 := cell_of_has h9 6; have n7 := cell_of_has h9 7; have n8 := cell_of_has h9 8
    simp only [glA, glB, glC] at n0 n1 n2 n3 n4 n5 n6 n7 n8
    have nz0 := frozen_of_has h9 0; have nz1 := frozen_of_has h9 1; have nz2 := frozen_of_has h9 2; have nz3 := frozen_of_has h9 3; have nz4 := frozen_of_has h9 4; have nz5 := frozen_of_has h9 5; have nz6 := frozen_of_has h9 6; have nz7 := frozen_of_has h9 7; have nz8 := frozen_of_has h9 8
    clear h9
    go_simp
    try with_reducible rfl
  · exact U9.put (U9.zero h9) rx ry ri
  · exact Chg.put9 (Chg.refl _ _) (Or.inl (by simp)) rx ry ri
  refine Abs.at_put (d := none) rfl ?_
  simp only [Act.put, stA, stB, stC]
  refine Abs.take_at (i := 11) (d := some 5) (v := ?_) rfl rfl (by kernel_rfl) (by kernel_rfl) (by kernel_rfl) (fun _ _ _ h => h) hG ⟨by rfl, fun w9 hw9 => Or.inl ?_⟩ ?_
  rotate_left
  · go_simp
    try with_reducible rfl
  simp only [Act.put, stA, stB, stC]
  refine Abs.done (by kernel_rfl) (fun wx hx => NoPanic.normal ?_) _
  obtain ⟨hA, hN⟩ := hx
  have hCF : Chg [] w wx := HC.out.trans_new hA (by simp; have := hP.out; omega)
  have g0 := cell_of_has hN 0; have g1 := cell_of_has hN 1; have g2 := cell_of_has hN 2; have g3 := cell_of_has hN 3; have g4 := cell_of_has hN 4; have g5 := cell_of_has hN 5; have g6 := cell_of_has hN 6; have g7 := cell_of_has hN 7; have g8 := cell_of_has hN 8
  simp only [glA, glB, glC] at g0 g1 g2 g3 g4 g5 g6 g7 g8
  go_wp2_with fail
  exact bodyPost_ret (v := .tuple #[.agg #[.int .u64 (lm rx 0 : Nat), .int .u64 (lm rx 1 : Nat), .int .u64 (lm rx 2 : Nat), .int .u64 (lm rx 3 : Nat), .int .u64 (lm ry 0 : Nat), .int .u64 (lm ry 1 : Nat), .int .u64 (lm ry 2 : Nat), .int .u64 (lm ry 3 : Nat), .bool ri], .int .i64 0]) (by simp [results, Try.results11, go_sem, g0, g1, g2, g3, g4, g5, g6, g7, g8]) rfl ⟨rfl, hCF⟩

set_option maxRecDepth 100000 in
set_option maxHeartbeats 8000000 in
theorem curve_add_l {p q : Pd} (hb : Bad p) (w : World) :
    Calls Try.prog 11 #[.agg (pv p), .agg (pv q)] w fun e w' => e = .returned (.tuple #[.agg (pv ⟨0, 0, false⟩), .int .i64 30]) ∧ Chg [] w w' := by
  obtain ⟨px, py, pi⟩ := p
  obtain ⟨qx, qy, qi⟩ := q
  have c1 := fun w => check_bad hb w
  clear hb
  unfold pv at *
  have C1 := Lib.hid c1
  clear c1 
  obtain ⟨W0, hW0⟩ : ∃ W0, ((w.alloc (.cells #[.int .u64 (lm px 0 : Nat), .int .u64 (lm px 1 : Nat), .int .u64 (lm px 2 : Nat), .int .u64 (lm px 3 : Nat), .int .u64 (lm py 0 : Nat), .int .u64 (lm py 1 : Nat), .int .u64 (lm py 2 : Nat), .int .u64 (lm py 3 : Nat), .bool pi] 26)).alloc (.cells #[.int .u64 (lm qx 0 : Nat), .int .u64 (lm qx 1 : Nat), .int .u64 (lm qx 2 : Nat), .int .u64 (lm qx 3 : Nat), .int .u64 (lm qy 0 : Nat), .int .u64 (lm qy 1 : Nat), .int .u64 (lm qy 2 : Nat), .int .u64 (lm qy 3 : Nat), .bool qi] 26)).alloc (.cells #[.int .u64 0, .int .u64 0, .int .u64 0, .int .u64 0, .int .u64 0, .int .u64 0, .int .u64 0, .int .u64 0, .bool false] 26) = W0 := ⟨_, rfl⟩
  have Hp := Lib.hid (show U9 W0 (w.heap.size) px py pi by rw [← hW0]; exact has_alloc (has_alloc (has_alloc_new _ _)))
  have Hq := Lib.hid (show U9 W0 (w.heap.size + 1) qx qy qi by rw [← hW0]; exact has_alloc (has_alloc_at (by simp)))
  have HR := Lib.hid (show U9 W0 (w.heap.size + 1 + 1) 0 0 false from U9.zero (by rw [← hW0]; exact has_alloc_at (by simp)))
  have HC := Lib.hid (show Chg [] w W0 by rw [← hW0]; exact (((Chg.refl _ _).alloc _).alloc _).alloc _)
  obtain ⟨p0, p1, p2, p3, p4, p5, p6, p7, p8⟩ := (Hp.out).all
  obtain ⟨q0, q1, q2, q3, q4, q5, q6, q7, q8⟩ := (Hq.out).all
  go_enter Try.func11, Try.ntmps11
  go_wp2_with fail
  try rw [hW0]
  clear hW0
  obtain ⟨P0, hP⟩ : ∃ P, w.heap.size = P := ⟨_, rfl⟩
  rw [hP] at Hp Hq HR p0 p1 p2 p3 p4 p5 p6 p7 p8 q0 q1 q2 q3 q4 q5 q6 q7 q8 ⊢
  obtain ⟨R, hR⟩ : ∃ R, P0 + 1 + 1 = R := ⟨_, rfl⟩
  rw [hR] at HR ⊢
  have hRP : P0 < R := by omega
  have hRP2 : P0 + 1 < R := by omega
  have hPR : P0 ≤ R := by omega
  replace hP := Lib.hid hP
  replace hR := Lib.hid hR
  refine (C1.out _).mono ?_
  rintro e w1 ⟨rfl, hC1⟩
  clear p0 p1 p2 p3 p4 p5 p6 p7 p8
  clear q0 q1 q2 q3 q4 q5 q6 q7 q8
  replace Hp := Lib.hid (Hp.out.chg hC1 nmN)
  replace Hq := Lib.hid (Hq.out.chg hC1 nmN)
  replace HR := Lib.hid (HR.out.chg hC1 nmN)
  replace HC := Lib.hid (HC.out.trans hC1)
  clear hC1
  obtain ⟨p0, p1, p2, p3, p4, p5, p6, p7, p8⟩ := (Hp.out).all
  obtain ⟨q0, q1, q2, q3, q4, q5, q6, q7, q8⟩ := (Hq.out).all
  clear p0 p1 p2 p3 p4 p5 p6 p7 p8
  clear q0 q1 q2 q3 q4 q5 q6 q7 q8
  go_upto_region 2 with fail
  have hRz := HR.out
  obtain ⟨n0, n1, n2, n3, n4, n5, n6, n7, n8⟩ := hRz.all
  have nz0 := hRz.fz 0; have nz1 := hRz.fz 1; have nz2 := hRz.fz 2; have nz3 := hRz.fz 3; have nz4 := hRz.fz 4; have nz5 := hRz.fz 5; have nz6 := hRz.fz 6; have nz7 := hRz.fz 7; have nz8 := hRz.fz 8
  have hll := hRz.lt
  rw [lm_zero] at n0 n1 n2 n3 n4 n5 n6 n7
  have hF9 := hRz.put 0 0 false; have hCF9 := HC.out.put9 (b := R) (Or.inr (by have := hP.out; omega)) 0 0 false
  simp only [put9, lm_zero] at hF9 hCF9
  have HF9 := Lib.hid hF9; have HCF := Lib.hid hCF9
  clear hRz hF9 hCF9
  go_wp2_with fail
  have hF := HF9.out; have hCF := HCF.out
  refine (id ?_ : bodyPost _ _ _ _ _ ((((((((((w1.setCell ⟨R, 0, none⟩ (.int .u64 ((0 : Nat) : Int))).setCell ⟨R, 1, none⟩ (.int .u64 ((0 : Nat) : Int))).setCell ⟨R, 2, none⟩ (.int .u64 ((0 : Nat) : Int))).setCell ⟨R, 3, none⟩ (.int .u64 ((0 : Nat) : Int))).setCell ⟨R, 4, none⟩ (.int .u64 ((0 : Nat) : Int))).setCell ⟨R, 5, none⟩ (.int .u64 ((0 : Nat) : Int))).setCell ⟨R, 6, none⟩ (.int .u64 ((0 : Nat) : Int))).setCell ⟨R, 7, none⟩ (.int .u64 ((0 : Nat) : Int))).setCell ⟨R, 8, none⟩ (.bool false))))
  clear HF9 HCF
  generalize (((((((((w1.setCell ⟨R, 0, none⟩ (.int .u64 ((0 : Nat) : Int))).setCell ⟨R, 1, none⟩ (.int .u64 ((0 : Nat) : Int))).setCell ⟨R, 2, none⟩ (.int .u64 ((0 : Nat) : Int))).setCell ⟨R, 3, none⟩ (.int .u64 ((0 : Nat) : Int))).setCell ⟨R, 4, none⟩ (.int .u64 ((0 : Nat) : Int))).setCell ⟨R, 5, none⟩ (.int .u64 ((0 : Nat) : Int))).setCell ⟨R, 6, none⟩ (.int .u64 ((0 : Nat) : Int))).setCell ⟨R, 7, none⟩ (.int .u64 ((0 : Nat) : Int))).setCell ⟨R, 8, none⟩ (.bool false)) = W5 at *
  obtain ⟨g0, g1, g2, g3, g4, g5, g6, g7, g8⟩ := hF.all
  rw [lm_zero] at g0 g1 g2 g3 g4 g5 g6 g7
  exact bodyPost_ret (v := .tuple #[.agg #[.int .u64 (lm 0 0 : Nat), .int .u64 (lm 0 1 : Nat), .int .u64 (lm 0 2 : Nat), .int .u64 (lm 0 3 : Nat), .int .u64 (lm 0 0 : Nat), .int .u64 (lm 0 1 : Nat), .int .u64 (lm 0 2 : Nat), .int .u64 (lm 0 3 : Nat), .bool false], .int .i64 30]) (by simp [results, Try.results11, go_sem, lm_zero, g0, g1, g2, g3, g4, g5, g6, g7, g8]) rfl ⟨rfl, hCF⟩

set_option maxRecDepth 100000 in
set_option maxHeartbeats 8000000 in
theorem curve_add_r {p q : Pd} {P : Pc} (hP : P.on 7) (hp : p = ofP P) (hb : Bad q) (w : World) :
    Calls Try.prog 11 #[.agg (pv p), .agg (pv q)] w fun e w' => e = .returned (.tuple #[.agg (pv ⟨0, 0, false⟩), .int .i64 30]) ∧ Chg [] w w' := by
  obtain ⟨px, py, pi⟩ := p
  obtain ⟨qx, qy, qi⟩ := q
  have c1 := fun w => check_ok hP w
  have c2 := fun w => check_bad hb w
  rw [← hp] at c1
  clear hb hp
  unfold pv at *
  have C1 := Lib.hid c1; have C2 := Lib.hid c2
  clear c1 c2
  obtain ⟨W0, hW0⟩ : ∃ W0, ((w.alloc (.cells #[.int .u64 (lm px 0 : Nat), .int .u64 (lm px 1 : Nat), .int .u64 (lm px 2 : Nat), .int .u64 (lm px 3 : Nat), .int .u64 (lm py 0 : Nat), .int .u64 (lm py 1 : Nat), .int .u64 (lm py 2 : Nat), .int .u64 (lm py 3 : Nat), .bool pi] 26)).alloc (.cells #[.int .u64 (lm qx 0 : Nat), .int .u64 (lm qx 1 : Nat), .int .u64 (lm qx 2 : Nat), .int .u64 (lm qx 3 : Nat), .int .u64 (lm qy 0 : Nat), .int .u64 (lm qy 1 : Nat), .int .u64 (lm qy 2 : Nat), .int .u64 (lm qy 3 : Nat), .bool qi] 26)).alloc (.cells #[.int .u64 0, .int .u64 0, .int .u64 0, .int .u64 0, .int .u64 0, .int .u64 0, .int .u64 0, .int .u64 0, .bool false] 26) = W0 := ⟨_, rfl⟩
  have Hp := Lib.hid (show U9 W0 (w.heap.size) px py pi by rw [← hW0]; exact has_alloc (has_alloc (has_alloc_new _ _)))
  have Hq := Lib.hid (show U9 W0 (w.heap.size + 1) qx qy qi by rw [← hW0]; exact has_alloc (has_alloc_at (by simp)))
  have HR := Lib.hid (show U9 W0 (w.heap.size + 1 + 1) 0 0 false from U9.zero (by rw [← hW0]; exact has_alloc_at (by simp)))
  have HC := Lib.hid (show Chg [] w W0 by rw [← hW0]; exact (((Chg.refl _ _).alloc _).alloc _).alloc _)
  obtain ⟨p0, p1, p2, p3, p4, p5, p6, p7, p8⟩ := (Hp.out).all
  obtain ⟨q0, q1, q2, q3, q4, q5, q6, q7, q8⟩ := (Hq.out).all
  go_enter Try.func11, Try.ntmps11
  go_wp2_with fail
  try rw [hW0]
  clear hW0
  obtain ⟨P0, hP⟩ : ∃ P, w.heap.size = P := ⟨_, rfl⟩
  rw [hP] at Hp Hq HR p0 p1 p2 p3 p4 p5 p6 p7 p8 q0 q1 q2 q3 q4 q5 q6 q7 q8 ⊢
  obtain ⟨R, hR⟩ : ∃ R, P0 + 1 + 1 = R := ⟨_, rfl⟩
  rw [hR] at HR ⊢
  have hRP : P0 < R := by omega
  have hRP2 : P0 + 1 < R := by omega
  have hPR : P0 ≤ R := by omega
  replace hP := Lib.hid hP
  replace hR := Lib.hid hR
  refine (C1.out _).mono ?_
  rintro e w1 ⟨rfl, hC1⟩
  clear p0 p1 p2 p3 p4 p5 p6 p7 p8
  clear q0 q1 q2 q3 q4 q5 q6 q7 q8
  replace Hp := Lib.hid (Hp.out.chg hC1 nmN)
  replace Hq := Lib.hid (Hq.out.chg hC1 nmN)
  replace HR := Lib.hid (HR.out.chg hC1 nmN)
  replace HC := Lib.hid (HC.out.trans hC1)
  clear hC1
  obtain ⟨p0, p1, p2, p3, p4, p5, p6, p7, p8⟩ := (Hp.out).all
  obtain ⟨q0, q1, q2, q3, q4, q5, q6, q7, q8⟩ := (Hq.out).all
  go_wp2_with fail
  refine (C2.out _).mono ?_
  rintro e w1 ⟨rfl, hC1⟩
  clear p0 p1 p2 p3 p4 p5 p6 p7 p8
  clear q0 q1 q2 q3 q4 q5 q6 q7 q8
  replace Hp := Lib.hid (Hp.out.chg hC1 nmN)
  replace Hq := Lib.hid (Hq.out.chg hC1 nmN)
  replace HR := Lib.hid (HR.out.chg hC1 nmN)
  replace HC := Lib.hid (HC.out.trans hC1)
  clear hC1
  obtain ⟨p0, p1, p2, p3, p4, p5, p6, p7, p8⟩ := (Hp.out).all
  obtain ⟨q0, q1, q2, q3, q4, q5, q6, q7, q8⟩ := (Hq.out).all
  clear p0 p1 p2 p3 p4 p5 p6 p7 p8
  clear q0 q1 q2 q3 q4 q5 q6 q7 q8
  go_upto_region 2 with fail
  have hRz := HR.out
  obtain ⟨n0, n1, n2, n3, n4, n5, n6, n7, n8⟩ := hRz.all
  have nz0 := hRz.fz 0; have nz1 := hRz.fz 1; have nz2 := hRz.fz 2; have nz3 := hRz.fz 3; have nz4 := hRz.fz 4; have nz5 := hRz.fz 5; have nz6 := hRz.fz 6; have nz7 := hRz.fz 7; have nz8 := hRz.fz 8
  have hll := hRz.lt
  rw [lm_zero] at n0 n1 n2 n3 n4 n5 n6 n7
  have hF9 := hRz.put 0 0 false; have hCF9 := HC.out.put9 (b := R) (Or.inr (by have := hP.out; omega)) 0 0 false
  simp only [put9, lm_zero] at hF9 hCF9
  have HF9 := Lib.hid hF9; have HCF := Lib.hid hCF9
  clear hRz hF9 hCF9
  go_wp2_with fail
  have hF := HF9.out; have hCF := HCF.out
  refine (id ?_ : bodyPost _ _ _ _ _ ((((((((((w1.setCell ⟨R, 0, none⟩ (.int .u64 ((0 : Nat) : Int))).setCell ⟨R, 1, none⟩ (.int .u64 ((0 : Nat) : Int))).setCell ⟨R, 2, none⟩ (.int .u64 ((0 : Nat) : Int))).setCell ⟨R, 3, none⟩ (.int .u64 ((0 : Nat) : Int))).setCell ⟨R, 4, none⟩ (.int .u64 ((0 : Nat) : Int))).setCell ⟨R, 5, none⟩ (.int .u64 ((0 : Nat) : Int))).setCell ⟨R, 6, none⟩ (.int .u64 ((0 : Nat) : Int))).setCell ⟨R, 7, none⟩ (.int .u64 ((0 : Nat) : Int))).setCell ⟨R, 8, none⟩ (.bool false))))
  clear HF9 HCF
  generalize (((((((((w1.setCell ⟨R, 0, none⟩ (.int .u64 ((0 : Nat) : Int))).setCell ⟨R, 1, none⟩ (.int .u64 ((0 : Nat) : Int))).setCell ⟨R, 2, none⟩ (.int .u64 ((0 : Nat) : Int))).setCell ⟨R, 3, none⟩ (.int .u64 ((0 : Nat) : Int))).setCell ⟨R, 4, none⟩ (.int .u64 ((0 : Nat) : Int))).setCell ⟨R, 5, none⟩ (.int .u64 ((0 : Nat) : Int))).setCell ⟨R, 6, none⟩ (.int .u64 ((0 : Nat) : Int))).setCell ⟨R, 7, none⟩ (.int .u64 ((0 : Nat) : Int))).setCell ⟨R, 8, none⟩ (.bool false)) = W5 at *
  obtain ⟨g0, g1, g2, g3, g4, g5, g6, g7, g8⟩ := hF.all
  rw [lm_zero] at g0 g1 g2 g3 g4 g5 g6 g7
  exact bodyPost_ret (v := .tuple #[.agg #[.int .u64 (lm 0 0 : Nat), .int .u64 (lm 0 1 : Nat), .int .u64 (lm 0 2 : Nat), .int .u64 (lm 0 3 : Nat), .int .u64 (lm 0 0 : Nat), .int .u64 (lm 0 1 : Nat), .int .u64 (lm 0 2 : Nat), .int .u64 (lm 0 3 : Nat), .bool false], .int .i64 30]) (by simp [results, Try.results11, go_sem, lm_zero, g0, g1, g2, g3, g4, g5, g6, g7, g8]) rfl ⟨rfl, hCF⟩

theorem ofP_neg (P : Pc) : (ofP P.neg).x = (ofP P).x ∧ (ofP P.neg).inf = (ofP P).inf ∧ ∃ y : Fin PP, y.val = (ofP P).y ∧ (-y).val = (ofP P.neg).y := by
  cases P with
  | inf => exact ⟨rfl, rfl, 0, rfl, by show (-(0 : Fin PP)).val = 0; rw [show -(0 : Fin PP) = 0 from by grind -lia -linarith (ringSteps := 200000)]; rfl⟩
  | aff x y => exact ⟨rfl, rfl, y, rfl, rfl⟩

set_option maxRecDepth 100000 in
set_option maxHeartbeats 8000000 in
theorem curve_neg {P : Pc} (hP : P.on 7) (w : World) :
    Calls Try.prog 13 #[.agg (pv (ofP P))] w fun e w' => e = .returned (.tuple #[.agg (pv (ofP P.neg)), .int .i64 0]) ∧ Chg [] w w' := by
  have c1 := fun w => check_ok hP w
  obtain ⟨hnx, hni, y, hy, hny⟩ := ofP_neg P
  obtain ⟨px, hpx⟩ : ∃ t, (ofP P).x = t := ⟨_, rfl⟩
  obtain ⟨py, hpy⟩ : ∃ t, (ofP P).y = t := ⟨_, rfl⟩
  obtain ⟨pi, hpi⟩ : ∃ t, (ofP P).inf = t := ⟨_, rfl⟩
  have ep : pv (ofP P) = #[.int .u64 (lm px 0 : Nat), .int .u64 (lm px 1 : Nat), .int .u64 (lm px 2 : Nat), .int .u64 (lm px 3 : Nat), .int .u64 (lm py 0 : Nat), .int .u64 (lm py 1 : Nat), .int .u64 (lm py 2 : Nat), .int .u64 (lm py 3 : Nat), .bool pi] := by unfold pv; rw [hpx, hpy, hpi]
  obtain ⟨ny, hnye⟩ : ∃ t, (ofP P.neg).y = t := ⟨_, rfl⟩
  have er : pv (ofP P.neg) = #[.int .u64 (lm px 0 : Nat), .int .u64 (lm px 1 : Nat), .int .u64 (lm px 2 : Nat), .int .u64 (lm px 3 : Nat), .int .u64 (lm ny 0 : Nat), .int .u64 (lm ny 1 : Nat), .int .u64 (lm ny 2 : Nat), .int .u64 (lm ny 3 : Nat), .bool pi] := by unfold pv; rw [hnx, hni, hnye, hpx, hpi]
  rw [hpy] at hy
  rw [hnye] at hny
  have n1 := fun f a w hF => fp_neg (f := f) (a := a) hy hny w hF
  rw [ep] at c1 ⊢
  rw [er]
  have C1 := Lib.hid c1; have N1 := Lib.hid n1; have HBase := Lib.hid field_base
  clear c1 n1 ep er hnx hni hy hny hnye hpx hpy hpi hP
  obtain ⟨W0, hW0⟩ : ∃ W0, (w.alloc (.cells #[.int .u64 (lm px 0 : Nat), .int .u64 (lm px 1 : Nat), .int .u64 (lm px 2 : Nat), .int .u64 (lm px 3 : Nat), .int .u64 (lm py 0 : Nat), .int .u64 (lm py 1 : Nat), .int .u64 (lm py 2 : Nat), .int .u64 (lm py 3 : Nat), .bool pi] 26)).alloc (.cells #[.int .u64 0, .int .u64 0, .int .u64 0, .int .u64 0, .int .u64 0, .int .u64 0, .int .u64 0, .int .u64 0, .bool false] 26) = W0 := ⟨_, rfl⟩
  have Hp := Lib.hid (show U9 W0 (w.heap.size) px py pi by rw [← hW0]; exact has_alloc (has_alloc_new _ _))
  have HR := Lib.hid (show U9 W0 (w.heap.size + 1) 0 0 false from U9.zero (by rw [← hW0]; exact has_alloc_at (by simp)))
  have HC := Lib.hid (show Chg [] w W0 by rw [← hW0]; exact ((Chg.refl _ _).alloc _).alloc _)
  obtain ⟨p0, p1, p2, p3, p4, p5, p6, p7, p8⟩ := (Hp.out).all
  go_enter Try.func13, Try.ntmps13
  go_wp2_with fail
  try rw [hW0]
  clear hW0
  obtain ⟨P0, hP⟩ : ∃ P, w.heap.size = P := ⟨_, rfl⟩
  rw [hP] at Hp HR p0 p1 p2 p3 p4 p5 p6 p7 p8 ⊢
  obtain ⟨R, hR⟩ : ∃ R, P0 + 1 = R := ⟨_, rfl⟩
  rw [hR] at HR ⊢
  have hRP : P0 < R := by omega
  have hPR : P0 ≤ R := by omega
  replace hP := Lib.hid hP
  replace hR := Lib.hid hR
  refine (C1.out _).mono ?_
  rintro e w1 ⟨rfl, hC1⟩
  clear p0 p1 p2 p3 p4 p5 p6 p7 p8
  replace Hp := Lib.hid (Hp.out.chg hC1 nmN)
  replace HR := Lib.hid (HR.out.chg hC1 nmN)
  replace HC := Lib.hid (HC.out.trans hC1)
  clear hC1
  obtain ⟨p0, p1, p2, p3, p4, p5, p6, p7, p8⟩ := (Hp.out).all
  have pq0 := (Hp.out).fz 0; have pq1 := (Hp.out).fz 1; have pq2 := (Hp.out).fz 2; have pq3 := (Hp.out).fz 3; have pq4 := (Hp.out).fz 4; have pq5 := (Hp.out).fz 5; have pq6 := (Hp.out).fz 6; have pq7 := (Hp.out).fz 7; have pq8 := (Hp.out).fz 8
  have hll := Hp.out.lt
  go_upto_region 4 with fail
  go_cut [] from 11 to 18 (fun wx => U9 wx P0 px ny pi ∧ Chg [P0] w1 wx)
  case first =>
    have HC4 := Lib.hid (Chg.refl [] w1)
    go_region_with (first | (go_at_call 38; go_loud (refine (HBase.out _).mono ?_; rintro e3 w3 ⟨f, a, rfl, hC3, hF3⟩; have hC4 : Chg [] w1 w3 := Chg.trans (by repeat (with_reducible first | exact Chg.refl _ _ | apply Chg.drew | apply Chg.drewN)) hC3; have hp3 := Hp.out.chg hC4 nmN; clear p0 pq0 p1 pq1 p2 pq2 p3 pq3 p4 pq4 p5 pq5 p6 pq6 p7 pq7 p8 pq8 hC3 HC4; obtain ⟨p0, p1, p2, p3, p4, p5, p6, p7, p8⟩ := hp3.all; have pq0 := hp3.fz 0; have pq1 := hp3.fz 1; have pq2 := hp3.fz 2; have pq3 := hp3.fz 3; have pq4 := hp3.fz 4; have pq5 := hp3.fz 5; have pq6 := hp3.fz 6; have pq7 := hp3.fz 7; have pq8 := hp3.fz 8; have hll3 := hp3.lt; have HF := Lib.hid hF3; have HC4 := Lib.hid hC4; have HP3 := Lib.hid hp3; clear hC4 hF3 hp3)) | (go_at_call 26; go_loud (refine (N1.out f a _ (HF.out.ch (by repeat (with_reducible first | exact Chg.refl _ _ | apply Chg.drew | apply Chg.drewN)))).mono ?_; rintro e5 w5 ⟨rfl, hC5⟩; have hC6 := HC4.out.trans (Chg.trans (by repeat (with_reducible first | exact Chg.refl _ _ | apply Chg.drew | apply Chg.drewN)) hC5); have hp3 := Hp.out.chg hC6 nmN; clear p0 pq0 p1 pq1 p2 pq2 p3 pq3 p4 pq4 p5 pq5 p6 pq6 p7 pq7 p8 pq8 hC5 HC4; obtain ⟨p0, p1, p2, p3, p4, p5, p6, p7, p8⟩ := hp3.all; have pq0 := hp3.fz 0; have pq1 := hp3.fz 1; have pq2 := hp3.fz 2; have pq3 := hp3.fz 3; have pq4 := hp3.fz 4; have pq5 := hp3.fz 5; have pq6 := hp3.fz 6; have pq7 := hp3.fz 7; have pq8 := hp3.fz 8; have hll3 := hp3.lt; have HC4 := Lib.hid hC6; have HP5 := Lib.hid hp3; clear hC6 hp3)))
    all_goals (go_wp2_with fail; go_meet)
    all_goals exact ⟨HP5.out.puty ny, (HC4.out.mono (by simp)).put_y (Or.inl (by simp)) ny⟩
  case rest =>
    obtain ⟨hp6, hC6⟩ := hcut
    clear p0 pq0 p1 pq1 p2 pq2 p3 pq3 p4 pq4 p5 pq5 p6 pq6 p7 pq7 p8 pq8 hll
    have hR6 := HR.out.chg hC6 (by simp; omega)
    have hw6 := HC.out.trans_new hC6 (by simp; have := hP.out; omega)
    have Hp6 := Lib.hid hp6; have HR6 := Lib.hid hR6; have HC6 := Lib.hid hw6
    clear hp6 hR6 hw6 hC6
    obtain ⟨p0, p1, p2, p3, p4, p5, p6, p7, p8⟩ := (Hp6.out).all
    have hRz := HR6.out
    obtain ⟨n0, n1, n2, n3, n4, n5, n6, n7, n8⟩ := hRz.all
    have nz0 := hRz.fz 0; have nz1 := hRz.fz 1; have nz2 := hRz.fz 2; have nz3 := hRz.fz 3; have nz4 := hRz.fz 4; have nz5 := hRz.fz 5; have nz6 := hRz.fz 6; have nz7 := hRz.fz 7; have nz8 := hRz.fz 8
    have hll := hRz.lt
    have HF9 := Lib.hid (hRz.put px ny pi); have HCF := Lib.hid (HC6.out.put9 (b := R) (Or.inr (by have := hP.out; omega)) px ny pi)
    clear hRz
    go_wp2_with fail
    have hF := HF9.out; have hCF := HCF.out
    refine (id ?_ : bodyPost _ _ _ _ _ (put9 wc R px ny pi))
    clear HF9 HCF
    generalize put9 wc R px ny pi = W5 at *
    obtain ⟨g0, g1, g2, g3, g4, g5, g6, g7, g8⟩ := hF.all
    exact bodyPost_ret (v := .tuple #[.agg #[.int .u64 (lm px 0 : Nat), .int .u64 (lm px 1 : Nat), .int .u64 (lm px 2 : Nat), .int .u64 (lm px 3 : Nat), .int .u64 (lm ny 0 : Nat), .int .u64 (lm ny 1 : Nat), .int .u64 (lm ny 2 : Nat), .int .u64 (lm ny 3 : Nat), .bool pi], .int .i64 0]) (by simp [results, Try.results13, go_sem, g0, g1, g2, g3, g4, g5, g6, g7, g8]) rfl ⟨rfl, hCF⟩

set_option maxRecDepth 100000 in
set_option maxHeartbeats 8000000 in
theorem curve_neg_bad {p : Pd} (hb : Bad p) (w : World) :
    Calls Try.prog 13 #[.agg (pv p)] w fun e w' => e = .returned (.tuple #[.agg (pv ⟨0, 0, false⟩), .int .i64 30]) ∧ Chg [] w w' := by
  obtain ⟨px, py, pi⟩ := p
  have c1 := fun w => check_bad hb w
  clear hb
  unfold pv at *
  have C1 := Lib.hid c1
  clear c1
  obtain ⟨W0, hW0⟩ : ∃ W0, (w.alloc (.cells #[.int .u64 (lm px 0 : Nat), .int .u64 (lm px 1 : Nat), .int .u64 (lm px 2 : Nat), .int .u64 (lm px 3 : Nat), .int .u64 (lm py 0 : Nat), .int .u64 (lm py 1 : Nat), .int .u64 (lm py 2 : Nat), .int .u64 (lm py 3 : Nat), .bool pi] 26)).alloc (.cells #[.int .u64 0, .int .u64 0, .int .u64 0, .int .u64 0, .int .u64 0, .int .u64 0, .int .u64 0, .int .u64 0, .bool false] 26) = W0 := ⟨_, rfl⟩
  have Hp := Lib.hid (show U9 W0 (w.heap.size) px py pi by rw [← hW0]; exact has_alloc (has_alloc_new _ _))
  have HR := Lib.hid (show U9 W0 (w.heap.size + 1) 0 0 false from U9.zero (by rw [← hW0]; exact has_alloc_at (by simp)))
  have HC := Lib.hid (show Chg [] w W0 by rw [← hW0]; exact ((Chg.refl _ _).alloc _).alloc _)
  obtain ⟨p0, p1, p2, p3, p4, p5, p6, p7, p8⟩ := (Hp.out).all
  go_enter Try.func13, Try.ntmps13
  go_wp2_with fail
  try rw [hW0]
  clear hW0
  obtain ⟨P0, hP⟩ : ∃ P, w.heap.size = P := ⟨_, rfl⟩
  rw [hP] at Hp HR p0 p1 p2 p3 p4 p5 p6 p7 p8 ⊢
  obtain ⟨R, hR⟩ : ∃ R, P0 + 1 = R := ⟨_, rfl⟩
  rw [hR] at HR ⊢
  have hRP : P0 < R := by omega
  have hPR : P0 ≤ R := by omega
  replace hP := Lib.hid hP
  replace hR := Lib.hid hR
  refine (C1.out _).mono ?_
  rintro e w1 ⟨rfl, hC1⟩
  clear p0 p1 p2 p3 p4 p5 p6 p7 p8
  replace Hp := Lib.hid (Hp.out.chg hC1 nmN)
  replace HR := Lib.hid (HR.out.chg hC1 nmN)
  replace HC := Lib.hid (HC.out.trans hC1)
  clear hC1
  obtain ⟨p0, p1, p2, p3, p4, p5, p6, p7, p8⟩ := (Hp.out).all
  clear p0 p1 p2 p3 p4 p5 p6 p7 p8
  go_upto_region 3 with fail
  have hRz := HR.out
  obtain ⟨n0, n1, n2, n3, n4, n5, n6, n7, n8⟩ := hRz.all
  have nz0 := hRz.fz 0; have nz1 := hRz.fz 1; have nz2 := hRz.fz 2; have nz3 := hRz.fz 3; have nz4 := hRz.fz 4; have nz5 := hRz.fz 5; have nz6 := hRz.fz 6; have nz7 := hRz.fz 7; have nz8 := hRz.fz 8
  have hll := hRz.lt
  rw [lm_zero] at n0 n1 n2 n3 n4 n5 n6 n7
  have hF9 := hRz.put 0 0 false; have hCF9 := HC.out.put9 (b := R) (Or.inr (by have := hP.out; omega)) 0 0 false
  simp only [put9, lm_zero] at hF9 hCF9
  have HF9 := Lib.hid hF9; have HCF := Lib.hid hCF9
  clear hRz hF9 hCF9
  go_wp2_with fail
  have hF := HF9.out; have hCF := HCF.out
  refine (id ?_ : bodyPost _ _ _ _ _ ((((((((((w1.setCell ⟨R, 0, none⟩ (.int .u64 ((0 : Nat) : Int))).setCell ⟨R, 1, none⟩ (.int .u64 ((0 : Nat) : Int))).setCell ⟨R, 2, none⟩ (.int .u64 ((0 : Nat) : Int))).setCell ⟨R, 3, none⟩ (.int .u64 ((0 : Nat) : Int))).setCell ⟨R, 4, none⟩ (.int .u64 ((0 : Nat) : Int))).setCell ⟨R, 5, none⟩ (.int .u64 ((0 : Nat) : Int))).setCell ⟨R, 6, none⟩ (.int .u64 ((0 : Nat) : Int))).setCell ⟨R, 7, none⟩ (.int .u64 ((0 : Nat) : Int))).setCell ⟨R, 8, none⟩ (.bool false))))
  clear HF9 HCF
  generalize (((((((((w1.setCell ⟨R, 0, none⟩ (.int .u64 ((0 : Nat) : Int))).setCell ⟨R, 1, none⟩ (.int .u64 ((0 : Nat) : Int))).setCell ⟨R, 2, none⟩ (.int .u64 ((0 : Nat) : Int))).setCell ⟨R, 3, none⟩ (.int .u64 ((0 : Nat) : Int))).setCell ⟨R, 4, none⟩ (.int .u64 ((0 : Nat) : Int))).setCell ⟨R, 5, none⟩ (.int .u64 ((0 : Nat) : Int))).setCell ⟨R, 6, none⟩ (.int .u64 ((0 : Nat) : Int))).setCell ⟨R, 7, none⟩ (.int .u64 ((0 : Nat) : Int))).setCell ⟨R, 8, none⟩ (.bool false)) = W5 at *
  obtain ⟨g0, g1, g2, g3, g4, g5, g6, g7, g8⟩ := hF.all
  rw [lm_zero] at g0 g1 g2 g3 g4 g5 g6 g7
  exact bodyPost_ret (v := .tuple #[.agg #[.int .u64 (lm 0 0 : Nat), .int .u64 (lm 0 1 : Nat), .int .u64 (lm 0 2 : Nat), .int .u64 (lm 0 3 : Nat), .int .u64 (lm 0 0 : Nat), .int .u64 (lm 0 1 : Nat), .int .u64 (lm 0 2 : Nat), .int .u64 (lm 0 3 : Nat), .bool false], .int .i64 30]) (by simp [results, Try.results13, go_sem, lm_zero, g0, g1, g2, g3, g4, g5, g6, g7, g8]) rfl ⟨rfl, hCF⟩

end Go.Proofs.Ytplldbmjdnikeaa
