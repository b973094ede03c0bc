import Derived.Test.YtplldbmjdnikeaaRefG

/- The document's formulas stand for the sum of points: plain Lean. -/
namespace Go.Proofs.Ytplldbmjdnikeaa
set_option linter.unusedVariables false
set_option linter.unusedSimpArgs false

section
variable {N : Nat} [NeZero N]
theorem rt_w (X z m Y : Fin N) (h : 2 * Y * m = 3 * X * X) : X * z * (X * z) + X * z * (X * z) + X * z * (X * z) = 2 * Y * m * (z * z) := by
  rw [h]; grind -lia -linarith (ringSteps := 200000)
theorem rt_x (X Y z m : Fin N) :
    let w := 2 * Y * m * (z * z)
    let s := Y * z * z
    let b := X * z * (Y * z) * s
    let b4 := b + b + (b + b)
    let h := w * w - (b4 + b4)
    let s3 := s * s * s
    let z4 := s3 + s3 + (s3 + s3)
    h * s + h * s = (m * m - X - X) * (z4 + z4) := by
  intro w s b b4 h s3 z4
  simp only [w, s, b, b4, h, s3, z4]
  grind -lia -linarith (ringSteps := 200000)
theorem rt_y (X Y z m : Fin N) :
    let w := 2 * Y * m * (z * z)
    let s := Y * z * z
    let b := X * z * (Y * z) * s
    let b4 := b + b + (b + b)
    let h := w * w - (b4 + b4)
    let y2 := Y * z * s * (Y * z * s)
    let e := y2 + y2 + (y2 + y2)
    let s3 := s * s * s
    let z4 := s3 + s3 + (s3 + s3)
    w * (b4 - h) - (e + e) = (m * (X - (m * m - X - X)) - Y) * (z4 + z4) := by
  intro w s b b4 h y2 e s3 z4
  simp only [w, s, b, b4, h, s3, z4, y2, e]
  grind -lia -linarith (ringSteps := 200000)
theorem rl_u (y1 y2 a b : Fin N) : y2 * b * a - y1 * a * b = (y2 - y1) * (a * b) := by grind -lia -linarith (ringSteps := 200000)
theorem rl_xb (x a b : Fin N) : x * a * b = x * (a * b) := by grind -lia -linarith (ringSteps := 200000)
theorem rl_x (x1 d k m : Fin N) :
    let u := m * d * k
    let v := d * k
    let v2 := v * v
    let v3 := v2 * v
    let w := v2 * (x1 * k)
    v * (u * u * k - v3 - (w + w)) = (m * m - x1 - (x1 + d)) * (v3 * k) := by
  intro u v v2 v3 w
  simp only [u, v, v2, v3, w]
  grind -lia -linarith (ringSteps := 200000)
theorem rl_y (x1 y1 d k m : Fin N) :
    let u := m * d * k
    let v := d * k
    let v2 := v * v
    let v3 := v2 * v
    let w := v2 * (x1 * k)
    u * (w - (u * u * k - v3 - (w + w))) - v3 * (y1 * k) = (m * (x1 - (m * m - x1 - (x1 + d))) - y1) * (v3 * k) := by
  intro u v v2 v3 w
  simp only [u, v, v2, v3, w]
  grind -lia -linarith (ringSteps := 200000)
end

/-- The document's sum. -/
def rplN (a b : J) : J :=
  if b.x * a.z - a.x * b.z = 0 then (if b.y * a.z - a.y * b.z = 0 then rtw a else ⟨0, 1, 0⟩) else rplL a b
def rpl (a b : J) : J := if a.z = 0 then b else if b.z = 0 then a else rplN a b
/-- A point X / Z, Y / Z stands for one of the curve. -/
inductive RepO (j : J) : Pc → Prop
  | inf (h : j.z = 0) : RepO j .inf
  | aff {x y : Fin PP} (hz : j.z ≠ 0) (hx : j.x = x * j.z) (hy : j.y = y * j.z) : RepO j (.aff x y)
theorem RepO.z0 {j : J} (h : RepO j .inf) : j.z = 0 := by cases h; assumption
theorem RepO.nz {j : J} {x y : Fin PP} (h : RepO j (.aff x y)) : j.z ≠ 0 := by cases h; assumption
theorem RepO.xe {j : J} {x y : Fin PP} (h : RepO j (.aff x y)) : j.x = x * j.z := by cases h; assumption
theorem RepO.ye {j : J} {x y : Fin PP} (h : RepO j (.aff x y)) : j.y = y * j.z := by cases h; assumption

theorem repo_tw {j : J} {P : Pc} (hP : P.on 7) (h : RepO j P) : RepO (rtw j) (addP P P) := by
  cases P with
  | inf =>
    have hz := h.z0
    refine .inf ?_
    unfold rtw
    rw [if_pos (Or.inl hz)]
  | aff x y =>
    have hz := h.nz; have hx := h.xe; have hy := h.ye
    have hon : y * y = x * x * x + 7 := hP
    refine Or.elim (Lin.of_on inv_PP two_PP hon hon) (fun hv => ?_) (fun hex => Exists.elim hex fun m hm => ?_)
    · rw [add_vert inv_PP two_PP hv]
      have h0 := self_neg hv.2
      have hj : j.y = 0 := hy.trans ((congrArg (fun t => t * j.z) h0).trans (zero_mul' _))
      refine .inf ?_
      unfold rtw
      rw [if_pos (Or.inr hj)]
    · rw [add_lin inv_PP two_PP hm]
      have hm2 : y ≠ 0 ∧ 2 * y * m = 3 * x * x := by
        rcases hm with ⟨h, _⟩ | ⟨_, _, h, h'⟩
        · exact absurd rfl h
        · exact ⟨h, h'⟩
      obtain ⟨jx, jy, jz⟩ := j
      clear h
      replace hz : jz ≠ 0 := hz
      replace hx : jx = x * jz := hx
      replace hy : jy = y * jz := hy
      have hjy : jy ≠ 0 := by rw [hy]; exact nz_mul hm2.1 hz
      have e : rtw ⟨jx, jy, jz⟩ = rtwN ⟨jx, jy, jz⟩ := by
        unfold rtw
        rw [if_neg (fun h => h.elim hz hjy)]
      rw [e]
      subst hx
      subst hy
      have hs : y * jz * jz ≠ 0 := nz_mul hjy hz
      have hs3 : y * jz * jz * (y * jz * jz) * (y * jz * jz) ≠ 0 := nz_mul (nz_mul hs hs) hs
      have e1 := rt_w x jz m y hm2.2
      have e2 := rt_x x y jz m
      have e3 := rt_y x y jz m
      simp only at e2 e3
      unfold rtwN
      simp only
      rw [e1]
      exact .aff (nz_dbl (nz_dbl (nz_dbl hs3))) e2 e3

theorem repo_pl {j k : J} {P Q : Pc} (hP : P.on 7) (hQ : Q.on 7) (h : RepO j P) (g : RepO k Q) : RepO (rpl j k) (addP P Q) := by
  cases P with
  | inf =>
    have hz := h.z0
    rw [inf_add]
    unfold rpl
    rw [if_pos hz]
    exact g
  | aff x1 y1 =>
    cases Q with
    | inf =>
      have hz := g.z0
      rw [add_inf]
      unfold rpl
      rw [if_neg h.nz, if_pos hz]
      exact h
    | aff x2 y2 =>
      have hrep := h
      have hz1 := h.nz; have hx1 := h.xe; have hy1 := h.ye
      have hz2 := g.nz; have hx2 := g.xe; have hy2 := g.ye
      have o1 : y1 * y1 = x1 * x1 * x1 + 7 := hP
      have o2 : y2 * y2 = x2 * x2 * x2 + 7 := hQ
      have e0 : rpl j k = rplN j k := by
        unfold rpl
        rw [if_neg hz1, if_neg hz2]
      rw [e0]
      have hk : j.z * k.z ≠ 0 := nz_mul hz1 hz2
      have ev : k.x * j.z - j.x * k.z = (x2 - x1) * (j.z * k.z) := by
        rw [hx1, hx2]; exact rl_u x1 x2 j.z k.z
      have eu : k.y * j.z - j.y * k.z = (y2 - y1) * (j.z * k.z) := by
        rw [hy1, hy2]; exact rl_u y1 y2 j.z k.z
      unfold rplN
      rw [ev, eu]
      refine Or.elim (Classical.em (x1 = x2)) (fun hx => ?_) (fun hx => ?_)
      · subst hx
        rw [if_pos ((congrArg (fun t => t * (j.z * k.z)) (sub_same x1)).trans (zero_mul' _))]
        refine Or.elim (Classical.em (y1 = y2)) (fun hy => ?_) (fun hy => ?_)
        · subst hy
          rw [if_pos ((congrArg (fun t => t * (j.z * k.z)) (sub_same y1)).trans (zero_mul' _))]
          exact repo_tw hP hrep
        · rw [if_neg (nz_mul (sub_ne (Ne.symm hy)) hk)]
          have hv : y1 = -y2 := Classical.byContradiction fun hne => by
            have hs : y1 + y2 ≠ 0 := fun e => hne (by clear o1 o2 ev eu hP hQ; grind -lia -linarith (ringSteps := 200000))
            have hp : (y1 + y2) * (y1 - y2) = 0 := by
              have : y1 * y1 = y2 * y2 := by rw [o1, o2]
              clear ev eu hP hQ o1 o2
              grind -lia -linarith (ringSteps := 200000)
            have := inv_PP.zero hp hs
            exact hy (by clear o1 o2 ev eu hP hQ hp; grind -lia -linarith (ringSteps := 200000))
          rw [add_vert inv_PP two_PP ⟨rfl, hv⟩]
          exact .inf rfl
      · have hd : x2 - x1 ≠ 0 := sub_ne (Ne.symm hx)
        rw [if_neg (nz_mul hd hk)]
        refine Or.elim (Lin.of_on inv_PP two_PP o1 o2) (fun hv => ?_) (fun hex => Exists.elim hex fun m hm => ?_)
        · exact absurd hv.1 hx
        · rw [add_lin inv_PP two_PP hm]
          have hm2 : m * (x2 - x1) = y2 - y1 := by
            rcases hm with ⟨_, h⟩ | ⟨h, _⟩
            · exact h
            · exact absurd h hx
          unfold rplL
          simp only
          rw [ev, eu, ← hm2]
          have exb : j.x * k.z = x1 * (j.z * k.z) := by rw [hx1]; exact rl_xb x1 j.z k.z
          have eyb : j.y * k.z = y1 * (j.z * k.z) := by rw [hy1]; exact rl_xb y1 j.z k.z
          rw [exb, eyb]
          obtain ⟨d, hde⟩ : ∃ d, x2 - x1 = d := ⟨_, rfl⟩
          have hx2d : x2 = x1 + d := by rw [← hde]; clear ev eu hP hQ o1 o2 hm hm2; grind -lia -linarith (ringSteps := 200000)
          rw [hde] at hd ⊢
          rw [hx2d]
          have e1 := rl_x x1 d (j.z * k.z) m
          have e2 := rl_y x1 y1 d (j.z * k.z) m
          simp only at e1 e2
          exact .aff (nz_mul (nz_mul (nz_mul (nz_mul hd hk) (nz_mul hd hk)) (nz_mul hd hk)) hk) e1 e2

/-- A point without a denominator. -/
def rout (j : J) : Pd := if j.z = 0 then ⟨0, 0, true⟩ else
  let i := finv j.z
  ⟨(j.x * i).val, (j.y * i).val, false⟩
theorem repo_out {j : J} {P : Pc} (h : RepO j P) : rout j = ofP P := by
  cases P with
  | inf =>
    have hz := h.z0
    unfold rout
    rw [if_pos hz]
    rfl
  | aff x y =>
    have hz := h.nz; have hx := h.xe; have hy := h.ye
    have hi := finv_mul hz
    unfold rout
    rw [if_neg hz]
    simp only
    generalize finv j.z = i at *
    generalize j.z = z at *
    have e1 : j.x * i = x := by rw [hx]; clear hx hy; grind -lia -linarith (ringSteps := 200000)
    have e2 : j.y * i = y := by rw [hy]; clear hx hy; grind -lia -linarith (ringSteps := 200000)
    rw [e1, e2]
    rfl
/-- A point with the denominator 1. -/
def rin : Pc → J
  | .inf => ⟨0, 1, 0⟩
  | .aff x y => ⟨x, y, 1⟩
theorem repo_rin (P : Pc) : RepO (rin P) P := by
  cases P with
  | inf => exact .inf rfl
  | aff x y => exact .aff one_PP (by show x = x * 1; grind -lia -linarith (ringSteps := 200000)) (by show y = y * 1; grind -lia -linarith (ringSteps := 200000))

end Go.Proofs.Ytplldbmjdnikeaa

/- The document's points: the walks of wardmoteref03.Twice at zero, In, Out, Neg, cubic. Printed by refh.py. -/
namespace Go.Proofs.Ytplldbmjdnikeaa
set_option linter.unusedVariables false
set_option linter.unusedSimpArgs false
open Go.RowKit

theorem l4_one : (#[.int .u64 (lm 1 0 : Nat), .int .u64 (lm 1 1 : Nat), .int .u64 (lm 1 2 : Nat), .int .u64 (lm 1 3 : Nat)] : Array Value) = #[.int .u64 1, .int .u64 0, .int .u64 0, .int .u64 0] := num_1
theorem one_cells : lm 1 0 = 1 ∧ lm 1 1 = 0 ∧ lm 1 2 = 0 ∧ lm 1 3 = 0 := by decide +kernel
theorem one_val : ((1 : Fin PP).val) = 1 := by decide +kernel
theorem zero_val : ((0 : Fin PP).val) = 0 := by decide +kernel
theorem ov_inf : ov ⟨0, 1, 0⟩ = #[.int .u64 0, .int .u64 0, .int .u64 0, .int .u64 0, .int .u64 1, .int .u64 0, .int .u64 0, .int .u64 0, .int .u64 0, .int .u64 0, .int .u64 0, .int .u64 0] := by
  rw [ov_mk zero_val one_val zero_val, lm_zero, lm_zero, lm_zero, lm_zero, one_cells.1, one_cells.2.1, one_cells.2.2.1, one_cells.2.2.2]
  rfl
theorem rp_base (w : World) : Calls Try.prog 40 #[] w fun e w' => e = .returned (.agg #[.int .u64 (lm PP 0 : Nat), .int .u64 (lm PP 1 : Nat), .int .u64 (lm PP 2 : Nat), .int .u64 (lm PP 3 : Nat), .int .u64 (lm cP 0 : Nat), .int .u64 (lm cP 1 : Nat), .int .u64 (lm cP 2 : Nat), .int .u64 (lm cP 3 : Nat)]) ∧ Chg [] w w' := ref_base w
theorem rp_inv {x : Fin PP} {u t : Nat} (hu : x.val = u) (ht : (finv x).val = t) (w : World) : Calls Try.prog 73 #[.agg #[.int .u64 (lm PP 0 : Nat), .int .u64 (lm PP 1 : Nat), .int .u64 (lm PP 2 : Nat), .int .u64 (lm PP 3 : Nat), .int .u64 (lm cP 0 : Nat), .int .u64 (lm cP 1 : Nat), .int .u64 (lm cP 2 : Nat), .int .u64 (lm cP 3 : Nat)], .agg #[.int .u64 (lm u 0 : Nat), .int .u64 (lm u 1 : Nat), .int .u64 (lm u 2 : Nat), .int .u64 (lm u 3 : Nat)]] w fun e w' => e = .returned (.agg #[.int .u64 (lm t 0 : Nat), .int .u64 (lm t 1 : Nat), .int .u64 (lm t 2 : Nat), .int .u64 (lm t 3 : Nat)]) ∧ Chg [] w w' := by
  subst hu; subst ht
  exact ref_inv dc_P (by decide +kernel) x.isLt w
set_option maxHeartbeats 1000000 in
theorem Z12.put1 {w : World} {b : Nat} {t : TypeId} (h : Z12 w b t) : ((((((((((((w.setCell ⟨b, 0, none⟩ (.int .u64 0)).setCell ⟨b, 1, none⟩ (.int .u64 0)).setCell ⟨b, 2, none⟩ (.int .u64 0)).setCell ⟨b, 3, none⟩ (.int .u64 0)).setCell ⟨b, 4, none⟩ (.int .u64 1)).setCell ⟨b, 5, none⟩ (.int .u64 0)).setCell ⟨b, 6, none⟩ (.int .u64 0)).setCell ⟨b, 7, none⟩ (.int .u64 0)).setCell ⟨b, 8, none⟩ (.int .u64 0)).setCell ⟨b, 9, none⟩ (.int .u64 0)).setCell ⟨b, 10, none⟩ (.int .u64 0)).setCell ⟨b, 11, none⟩ (.int .u64 0)).heap[b]? = some (.cells #[.int .u64 0, .int .u64 0, .int .u64 0, .int .u64 0, .int .u64 1, .int .u64 0, .int .u64 0, .int .u64 0, .int .u64 0, .int .u64 0, .int .u64 0, .int .u64 0] t (0, 0)) := by
  have h0 := has_set h 0 (.int .u64 0)
  simp only [List.setIfInBounds_toArray, List.set_cons_zero, List.set_cons_succ] at h0
  have h1 := has_set h0 1 (.int .u64 0)
  simp only [List.setIfInBounds_toArray, List.set_cons_zero, List.set_cons_succ] at h1
  have h2 := has_set h1 2 (.int .u64 0)
  simp only [List.setIfInBounds_toArray, List.set_cons_zero, List.set_cons_succ] at h2
  have h3 := has_set h2 3 (.int .u64 0)
  simp only [List.setIfInBounds_toArray, List.set_cons_zero, List.set_cons_succ] at h3
  have h4 := has_set h3 4 (.int .u64 1)
  simp only [List.setIfInBounds_toArray, List.set_cons_zero, List.set_cons_succ] at h4
  have h5 := has_set h4 5 (.int .u64 0)
  simp only [List.setIfInBounds_toArray, List.set_cons_zero, List.set_cons_succ] at h5
  have h6 := has_set h5 6 (.int .u64 0)
  simp only [List.setIfInBounds_toArray, List.set_cons_zero, List.set_cons_succ] at h6
  have h7 := has_set h6 7 (.int .u64 0)
  simp only [List.setIfInBounds_toArray, List.set_cons_zero, List.set_cons_succ] at h7
  have h8 := has_set h7 8 (.int .u64 0)
  simp only [List.setIfInBounds_toArray, List.set_cons_zero, List.set_cons_succ] at h8
  have h9 := has_set h8 9 (.int .u64 0)
  simp only [List.setIfInBounds_toArray, List.set_cons_zero, List.set_cons_succ] at h9
  have h10 := has_set h9 10 (.int .u64 0)
  simp only [List.setIfInBounds_toArray, List.set_cons_zero, List.set_cons_succ] at h10
  have h11 := has_set h10 11 (.int .u64 0)
  simp only [List.setIfInBounds_toArray, List.set_cons_zero, List.set_cons_succ] at h11
  exact h11
theorem Chg.put1 {S : List Nat} {a w : World} (h : Chg S a w) {b : Nat} (hb : b ∈ S ∨ a.heap.size ≤ b) : Chg S a ((((((((((((w.setCell ⟨b, 0, none⟩ (.int .u64 0)).setCell ⟨b, 1, none⟩ (.int .u64 0)).setCell ⟨b, 2, none⟩ (.int .u64 0)).setCell ⟨b, 3, none⟩ (.int .u64 0)).setCell ⟨b, 4, none⟩ (.int .u64 1)).setCell ⟨b, 5, none⟩ (.int .u64 0)).setCell ⟨b, 6, none⟩ (.int .u64 0)).setCell ⟨b, 7, none⟩ (.int .u64 0)).setCell ⟨b, 8, none⟩ (.int .u64 0)).setCell ⟨b, 9, none⟩ (.int .u64 0)).setCell ⟨b, 10, none⟩ (.int .u64 0)).setCell ⟨b, 11, none⟩ (.int .u64 0)) :=
  ((((((((((((h.setCell hb _).setCell hb _).setCell hb _).setCell hb _).setCell hb _).setCell hb _).setCell hb _).setCell hb _).setCell hb _).setCell hb _).setCell hb _).setCell hb _)

set_option maxRecDepth 100000 in
set_option maxHeartbeats 8000000 in
theorem rtwice_z (p : J) (hz : p.z = 0) (w : World) : Calls Try.prog 74 #[.agg (ov p)] w fun e w' => e = .returned (.agg (ov ⟨0, 1, 0⟩)) ∧ Chg [] w w' := by
  rw [ov_inf]
  obtain ⟨Axe, heAx⟩ : ∃ e, p.x = e := ⟨_, rfl⟩
  obtain ⟨Axv, hAxv⟩ : ∃ v, Axe.val = v := ⟨_, rfl⟩
  obtain ⟨Aye, heAy⟩ : ∃ e, p.y = e := ⟨_, rfl⟩
  obtain ⟨Ayv, hAyv⟩ : ∃ v, Aye.val = v := ⟨_, rfl⟩
  obtain ⟨Aze, heAz⟩ : ∃ e, p.z = e := ⟨_, rfl⟩
  obtain ⟨Azv, hAzv⟩ : ∃ v, Aze.val = v := ⟨_, rfl⟩
  have Q1 := Lib.hid (fun w => rp_zero hAzv true (by rw [← heAz]; simpa using hz) w)
  have hj : ov p = #[.int .u64 (lm Axv 0 : Nat), .int .u64 (lm Axv 1 : Nat), .int .u64 (lm Axv 2 : Nat), .int .u64 (lm Axv 3 : Nat), .int .u64 (lm Ayv 0 : Nat), .int .u64 (lm Ayv 1 : Nat), .int .u64 (lm Ayv 2 : Nat), .int .u64 (lm Ayv 3 : Nat), .int .u64 (lm Azv 0 : Nat), .int .u64 (lm Azv 1 : Nat), .int .u64 (lm Azv 2 : Nat), .int .u64 (lm Azv 3 : Nat)] := by unfold ov; rw [heAx, heAy, heAz, hAxv, hAyv, hAzv]
  rw [hj]
  clear hj heAx heAy heAz hAxv hAyv hAzv hz
  obtain ⟨W0, hW0⟩ : ∃ W0, (w.alloc (.cells #[.int .u64 (lm Axv 0 : Nat), .int .u64 (lm Axv 1 : Nat), .int .u64 (lm Axv 2 : Nat), .int .u64 (lm Axv 3 : Nat), .int .u64 (lm Ayv 0 : Nat), .int .u64 (lm Ayv 1 : Nat), .int .u64 (lm Ayv 2 : Nat), .int .u64 (lm Ayv 3 : Nat), .int .u64 (lm Azv 0 : Nat), .int .u64 (lm Azv 1 : Nat), .int .u64 (lm Azv 2 : Nat), .int .u64 (lm Azv 3 : Nat)] 71)).alloc (.cells #[.int .u64 0, .int .u64 0, .int .u64 0, .int .u64 0, .int .u64 0, .int .u64 0, .int .u64 0, .int .u64 0, .int .u64 0, .int .u64 0, .int .u64 0, .int .u64 0] 71) = W0 := ⟨_, rfl⟩
  have HBA := Lib.hid (show U12 W0 (w.heap.size) 71 Axv Ayv Azv by rw [← hW0]; exact has_alloc (has_alloc_new _ _))
  have HR := Lib.hid (show Z12 W0 (w.heap.size + 1) 71 by rw [← hW0]; exact has_alloc_at (by simp))
  have HC := Lib.hid (show Chg [] w W0 by rw [← hW0]; exact ((Chg.refl _ _).alloc _).alloc _)
  obtain ⟨Az0, Az1, Az2, Az3⟩ := four4 fun _ => (HBA.out).cz
  go_enter Try.func74, Try.ntmps74
  go_wp2_with fail
  try rw [hW0]
  clear hW0
  obtain ⟨P, hP⟩ : ∃ P, w.heap.size = P := ⟨_, rfl⟩
  rw [hP] at HBA HR Az0 Az1 Az2 Az3 ⊢
  obtain ⟨R, hR⟩ : ∃ R, P + 1 = R := ⟨_, rfl⟩
  rw [hR] at HR ⊢
  have hRP : P < R := by omega
  replace hR := Lib.hid hR
  replace hP := Lib.hid hP
  refine (Q1.out _).mono ?_
  rintro e w1 ⟨rfl, hC1⟩
  clear Az0 Az1 Az2 Az3
  replace HBA := Lib.hid (HBA.out.chg hC1 nmN)
  replace HR := Lib.hid (HR.out.chg hC1 nmN)
  replace HC := Lib.hid (HC.out.trans hC1)
  clear hC1
  go_upto_region 2 with fail
  have hRz := HR.out
  have n0 := cell_of_has hRz 0; have n1 := cell_of_has hRz 1; have n2 := cell_of_has hRz 2; have n3 := cell_of_has hRz 3; have n4 := cell_of_has hRz 4; have n5 := cell_of_has hRz 5; have n6 := cell_of_has hRz 6; have n7 := cell_of_has hRz 7; have n8 := cell_of_has hRz 8; have n9 := cell_of_has hRz 9; have n10 := cell_of_has hRz 10; have n11 := cell_of_has hRz 11
  simp only [glA, glB, glC] at n0 n1 n2 n3 n4 n5 n6 n7 n8 n9 n10 n11
  have nz0 := frozen_of_has hRz 0; have nz1 := frozen_of_has hRz 1; have nz2 := frozen_of_has hRz 2; have nz3 := frozen_of_has hRz 3; have nz4 := frozen_of_has hRz 4; have nz5 := frozen_of_has hRz 5; have nz6 := frozen_of_has hRz 6; have nz7 := frozen_of_has hRz 7; have nz8 := frozen_of_has hRz 8; have nz9 := frozen_of_has hRz 9; have nz10 := frozen_of_has hRz 10; have nz11 := frozen_of_has hRz 11
  have hll := hRz.lt
  have HF := Lib.hid hRz.put1; have HCF := Lib.hid (HC.out.put1 (b := R) (Or.inr (by have := hP.out; omega)))
  clear hRz
  go_wp2_with fail
  have hF := HF.out; have hCF := HCF.out
  refine (id ?_ : bodyPost _ _ _ _ _ ((((((((((((w1.setCell ⟨R, 0, none⟩ (.int .u64 0)).setCell ⟨R, 1, none⟩ (.int .u64 0)).setCell ⟨R, 2, none⟩ (.int .u64 0)).setCell ⟨R, 3, none⟩ (.int .u64 0)).setCell ⟨R, 4, none⟩ (.int .u64 1)).setCell ⟨R, 5, none⟩ (.int .u64 0)).setCell ⟨R, 6, none⟩ (.int .u64 0)).setCell ⟨R, 7, none⟩ (.int .u64 0)).setCell ⟨R, 8, none⟩ (.int .u64 0)).setCell ⟨R, 9, none⟩ (.int .u64 0)).setCell ⟨R, 10, none⟩ (.int .u64 0)).setCell ⟨R, 11, none⟩ (.int .u64 0)))
  clear HF HCF
  generalize ((((((((((((w1.setCell ⟨R, 0, none⟩ (.int .u64 0)).setCell ⟨R, 1, none⟩ (.int .u64 0)).setCell ⟨R, 2, none⟩ (.int .u64 0)).setCell ⟨R, 3, none⟩ (.int .u64 0)).setCell ⟨R, 4, none⟩ (.int .u64 1)).setCell ⟨R, 5, none⟩ (.int .u64 0)).setCell ⟨R, 6, none⟩ (.int .u64 0)).setCell ⟨R, 7, none⟩ (.int .u64 0)).setCell ⟨R, 8, none⟩ (.int .u64 0)).setCell ⟨R, 9, none⟩ (.int .u64 0)).setCell ⟨R, 10, none⟩ (.int .u64 0)).setCell ⟨R, 11, none⟩ (.int .u64 0)) = W5 at *
  have g0 := cell_of_has hF 0; have g1 := cell_of_has hF 1; have g2 := cell_of_has hF 2; have g3 := cell_of_has hF 3; have g4 := cell_of_has hF 4; have g5 := cell_of_has hF 5; have g6 := cell_of_has hF 6; have g7 := cell_of_has hF 7; have g8 := cell_of_has hF 8; have g9 := cell_of_has hF 9; have g10 := cell_of_has hF 10; have g11 := cell_of_has hF 11
  simp only [glA, glB, glC] at g0 g1 g2 g3 g4 g5 g6 g7 g8 g9 g10 g11
  exact bodyPost_ret (v := .agg #[.int .u64 0, .int .u64 0, .int .u64 0, .int .u64 0, .int .u64 1, .int .u64 0, .int .u64 0, .int .u64 0, .int .u64 0, .int .u64 0, .int .u64 0, .int .u64 0]) (by simp [results, Try.results74, go_sem, g0, g1, g2, g3, g4, g5, g6, g7, g8, g9, g10, g11]) rfl ⟨rfl, hCF⟩

set_option maxRecDepth 100000 in
set_option maxHeartbeats 8000000 in
theorem rtwice_y (p : J) (hz : ¬ p.z = 0) (hy : p.y = 0) (w : World) : Calls Try.prog 74 #[.agg (ov p)] w fun e w' => e = .returned (.agg (ov ⟨0, 1, 0⟩)) ∧ Chg [] w w' := by
  rw [ov_inf]
  obtain ⟨Axe, heAx⟩ : ∃ e, p.x = e := ⟨_, rfl⟩
  obtain ⟨Axv, hAxv⟩ : ∃ v, Axe.val = v := ⟨_, rfl⟩
  obtain ⟨Aye, heAy⟩ : ∃ e, p.y = e := ⟨_, rfl⟩
  obtain ⟨Ayv, hAyv⟩ : ∃ v, Aye.val = v := ⟨_, rfl⟩
  obtain ⟨Aze, heAz⟩ : ∃ e, p.z = e := ⟨_, rfl⟩
  obtain ⟨Azv, hAzv⟩ : ∃ v, Aze.val = v := ⟨_, rfl⟩
  have Q1 := Lib.hid (fun w => rp_zero hAzv false (by rw [← heAz]; simpa using hz) w)
  have Q2 := Lib.hid (fun w => rp_zero hAyv true (by rw [← heAy]; simpa using hy) w)
  have hj : ov p = #[.int .u64 (lm Axv 0 : Nat), .int .u64 (lm Axv 1 : Nat), .int .u64 (lm Axv 2 : Nat), .int .u64 (lm Axv 3 : Nat), .int .u64 (lm Ayv 0 : Nat), .int .u64 (lm Ayv 1 : Nat), .int .u64 (lm Ayv 2 : Nat), .int .u64 (lm Ayv 3 : Nat), .int .u64 (lm Azv 0 : Nat), .int .u64 (lm Azv 1 : Nat), .int .u64 (lm Azv 2 : Nat), .int .u64 (lm Azv 3 : Nat)] := by unfold ov; rw [heAx, heAy, heAz, hAxv, hAyv, hAzv]
  rw [hj]
  clear hj heAx heAy heAz hAxv hAyv hAzv hz hy
  obtain ⟨W0, hW0⟩ : ∃ W0, (w.alloc (.cells #[.int .u64 (lm Axv 0 : Nat), .int .u64 (lm Axv 1 : Nat), .int .u64 (lm Axv 2 : Nat), .int .u64 (lm Axv 3 : Nat), .int .u64 (lm Ayv 0 : Nat), .int .u64 (lm Ayv 1 : Nat), .int .u64 (lm Ayv 2 : Nat), .int .u64 (lm Ayv 3 : Nat), .int .u64 (lm Azv 0 : Nat), .int .u64 (lm Azv 1 : Nat), .int .u64 (lm Azv 2 : Nat), .int .u64 (lm Azv 3 : Nat)] 71)).alloc (.cells #[.int .u64 0, .int .u64 0, .int .u64 0, .int .u64 0, .int .u64 0, .int .u64 0, .int .u64 0, .int .u64 0, .int .u64 0, .int .u64 0, .int .u64 0, .int .u64 0] 71) = W0 := ⟨_, rfl⟩
  have HBA := Lib.hid (show U12 W0 (w.heap.size) 71 Axv Ayv Azv by rw [← hW0]; exact has_alloc (has_alloc_new _ _))
  have HR := Lib.hid (show Z12 W0 (w.heap.size + 1) 71 by rw [← hW0]; exact has_alloc_at (by simp))
  have HC := Lib.hid (show Chg [] w W0 by rw [← hW0]; exact ((Chg.refl _ _).alloc _).alloc _)
  obtain ⟨Az0, Az1, Az2, Az3⟩ := four4 fun _ => (HBA.out).cz
  go_enter Try.func74, Try.ntmps74
  go_wp2_with fail
  try rw [hW0]
  clear hW0
  obtain ⟨P, hP⟩ : ∃ P, w.heap.size = P := ⟨_, rfl⟩
  rw [hP] at HBA HR Az0 Az1 Az2 Az3 ⊢
  obtain ⟨R, hR⟩ : ∃ R, P + 1 = R := ⟨_, rfl⟩
  rw [hR] at HR ⊢
  have hRP : P < R := by omega
  replace hR := Lib.hid hR
  replace hP := Lib.hid hP
  refine (Q1.out _).mono ?_
  rintro e w1 ⟨rfl, hC1⟩
  clear Az0 Az1 Az2 Az3
  replace HBA := Lib.hid (HBA.out.chg hC1 nmN)
  replace HR := Lib.hid (HR.out.chg hC1 nmN)
  replace HC := Lib.hid (HC.out.trans hC1)
  clear hC1
  obtain ⟨Ay0, Ay1, Ay2, Ay3⟩ := four4 fun _ => (HBA.out).cy
  go_wp2_with fail
  refine (Q2.out _).mono ?_
  rintro e w1 ⟨rfl, hC1⟩
  clear Ay0 Ay1 Ay2 Ay3
  replace HBA := Lib.hid (HBA.out.chg hC1 nmN)
  replace HR := Lib.hid (HR.out.chg hC1 nmN)
  replace HC := Lib.hid (HC.out.trans hC1)
  clear hC1
  go_upto_region 2 with fail
  have hRz := HR.out
  have n0 := cell_of_has hRz 0; have n1 := cell_of_has hRz 1; have n2 := cell_of_has hRz 2; have n3 := cell_of_has hRz 3; have n4 := cell_of_has hRz 4; have n5 := cell_of_has hRz 5; have n6 := cell_of_has hRz 6; have n7 := cell_of_has hRz 7; have n8 := cell_of_has hRz 8; have n9 := cell_of_has hRz 9; have n10 := cell_of_has hRz 10; have n11 := cell_of_has hRz 11
  simp only [glA, glB, glC] at n0 n1 n2 n3 n4 n5 n6 n7 n8 n9 n10 n11
  have nz0 := frozen_of_has hRz 0; have nz1 := frozen_of_has hRz 1; have nz2 := frozen_of_has hRz 2; have nz3 := frozen_of_has hRz 3; have nz4 := frozen_of_has hRz 4; have nz5 := frozen_of_has hRz 5; have nz6 := frozen_of_has hRz 6; have nz7 := frozen_of_has hRz 7; have nz8 := frozen_of_has hRz 8; have nz9 := frozen_of_has hRz 9; have nz10 := frozen_of_has hRz 10; have nz11 := frozen_of_has hRz 11
  have hll := hRz.lt
  have HF := Lib.hid hRz.put1; have HCF := Lib.hid (HC.out.put1 (b := R) (Or.inr (by have := hP.out; omega)))
  clear hRz
  go_wp2_with fail
  have hF := HF.out; have hCF := HCF.out
  refine (id ?_ : bodyPost _ _ _ _ _ ((((((((((((w1.setCell ⟨R, 0, none⟩ (.int .u64 0)).setCell ⟨R, 1, none⟩ (.int .u64 0)).setCell ⟨R, 2, none⟩ (.int .u64 0)).setCell ⟨R, 3, none⟩ (.int .u64 0)).setCell ⟨R, 4, none⟩ (.int .u64 1)).setCell ⟨R, 5, none⟩ (.int .u64 0)).setCell ⟨R, 6, none⟩ (.int .u64 0)).setCell ⟨R, 7, none⟩ (.int .u64 0)).setCell ⟨R, 8, none⟩ (.int .u64 0)).setCell ⟨R, 9, none⟩ (.int .u64 0)).setCell ⟨R, 10, none⟩ (.int .u64 0)).setCell ⟨R, 11, none⟩ (.int .u64 0)))
  clear HF HCF
  generalize ((((((((((((w1.setCell ⟨R, 0, none⟩ (.int .u64 0)).setCell ⟨R, 1, none⟩ (.int .u64 0)).setCell ⟨R, 2, none⟩ (.int .u64 0)).setCell ⟨R, 3, none⟩ (.int .u64 0)).setCell ⟨R, 4, none⟩ (.int .u64 1)).setCell ⟨R, 5, none⟩ (.int .u64 0)).setCell ⟨R, 6, none⟩ (.int .u64 0)).setCell ⟨R, 7, none⟩ (.int .u64 0)).setCell ⟨R, 8, none⟩ (.int .u64 0)).setCell ⟨R, 9, none⟩ (.int .u64 0)).setCell ⟨R, 10, none⟩ (.int .u64 0)).setCell ⟨R, 11, none⟩ (.int .u64 0)) = W5 at *
  have g0 := cell_of_has hF 0; have g1 := cell_of_has hF 1; have g2 := cell_of_has hF 2; have g3 := cell_of_has hF 3; have g4 := cell_of_has hF 4; have g5 := cell_of_has hF 5; have g6 := cell_of_has hF 6; have g7 := cell_of_has hF 7; have g8 := cell_of_has hF 8; have g9 := cell_of_has hF 9; have g10 := cell_of_has hF 10; have g11 := cell_of_has hF 11
  simp only [glA, glB, glC] at g0 g1 g2 g3 g4 g5 g6 g7 g8 g9 g10 g11
  exact bodyPost_ret (v := .agg #[.int .u64 0, .int .u64 0, .int .u64 0, .int .u64 0, .int .u64 1, .int .u64 0, .int .u64 0, .int .u64 0, .int .u64 0, .int .u64 0, .int .u64 0, .int .u64 0]) (by simp [results, Try.results74, go_sem, g0, g1, g2, g3, g4, g5, g6, g7, g8, g9, g10, g11]) rfl ⟨rfl, hCF⟩

theorem rtwice (p : J) (w : World) : Calls Try.prog 74 #[.agg (ov p)] w fun e w' => e = .returned (.agg (ov (rtw p))) ∧ Chg [] w w' := by
  unfold rtw
  by_cases hz : p.z = 0
  · rw [if_pos (Or.inl hz)]; exact rtwice_z p hz w
  · by_cases hy : p.y = 0
    · rw [if_pos (Or.inr hy)]; exact rtwice_y p hz hy w
    · rw [if_neg (fun h => h.elim hz hy)]; exact rtwice_n p hz hy w

set_option maxRecDepth 100000 in
set_option maxHeartbeats 8000000 in
theorem ref_in_inf {xv yv : Nat} (w : World) : Calls Try.prog 37 #[.agg #[.int .u64 (lm xv 0 : Nat), .int .u64 (lm xv 1 : Nat), .int .u64 (lm xv 2 : Nat), .int .u64 (lm xv 3 : Nat), .int .u64 (lm yv 0 : Nat), .int .u64 (lm yv 1 : Nat), .int .u64 (lm yv 2 : Nat), .int .u64 (lm yv 3 : Nat), .bool true]] w fun e w' => e = .returned (.agg (ov ⟨0, 1, 0⟩)) ∧ Chg [] w w' := by
  rw [ov_inf]
  obtain ⟨W0, hW0⟩ : ∃ W0, (w.alloc (.cells #[.int .u64 (lm xv 0 : Nat), .int .u64 (lm xv 1 : Nat), .int .u64 (lm xv 2 : Nat), .int .u64 (lm xv 3 : Nat), .int .u64 (lm yv 0 : Nat), .int .u64 (lm yv 1 : Nat), .int .u64 (lm yv 2 : Nat), .int .u64 (lm yv 3 : Nat), .bool true] 26)).alloc (.cells #[.int .u64 0, .int .u64 0, .int .u64 0, .int .u64 0, .int .u64 0, .int .u64 0, .int .u64 0, .int .u64 0, .int .u64 0, .int .u64 0, .int .u64 0, .int .u64 0] 71) = W0 := ⟨_, rfl⟩
  have HB := Lib.hid (show U9 W0 w.heap.size xv yv true by rw [← hW0]; exact has_alloc (has_alloc_new _ _))
  have HR := Lib.hid (show Z12 W0 (w.heap.size + 1) 71 by rw [← hW0]; exact has_alloc_at (by simp))
  have HC := Lib.hid (show Chg [] w W0 by rw [← hW0]; exact ((Chg.refl _ _).alloc _).alloc _)
  obtain ⟨x0, x1, x2, x3⟩ := four4 fun _ => (HB.out).cx; obtain ⟨y0, y1, y2, y3⟩ := four4 fun _ => (HB.out).cy; have ci := HB.out.ci
  go_enter Try.func37, Try.ntmps37
  go_upto_region 2 with fail
  try rw [hW0]
  clear hW0
  obtain ⟨P, hP⟩ : ∃ P, w.heap.size = P := ⟨_, rfl⟩
  rw [hP] at HB HR ci x0 y0 x1 y1 x2 y2 x3 y3 ⊢
  obtain ⟨R, hR⟩ : ∃ R, P + 1 = R := ⟨_, rfl⟩
  rw [hR] at HR ⊢
  have hRP : P < R := by omega
  replace hR := Lib.hid hR
  replace hP := Lib.hid hP
  clear ci x0 y0 x1 y1 x2 y2 x3 y3
  have hRz := HR.out
  have n0 := cell_of_has hRz 0; have n1 := cell_of_has hRz 1; have n2 := cell_of_has hRz 2; have n3 := cell_of_has hRz 3; have n4 := cell_of_has hRz 4; have n5 := cell_of_has hRz 5; have n6 := cell_of_has hRz 6; have n7 := cell_of_has hRz 7; have n8 := cell_of_has hRz 8; have n9 := cell_of_has hRz 9; have n10 := cell_of_has hRz 10; have n11 := cell_of_has hRz 11
  simp only [glA, glB, glC] at n0 n1 n2 n3 n4 n5 n6 n7 n8 n9 n10 n11
  have nz0 := frozen_of_has hRz 0; have nz1 := frozen_of_has hRz 1; have nz2 := frozen_of_has hRz 2; have nz3 := frozen_of_has hRz 3; have nz4 := frozen_of_has hRz 4; have nz5 := frozen_of_has hRz 5; have nz6 := frozen_of_has hRz 6; have nz7 := frozen_of_has hRz 7; have nz8 := frozen_of_has hRz 8; have nz9 := frozen_of_has hRz 9; have nz10 := frozen_of_has hRz 10; have nz11 := frozen_of_has hRz 11
  have hll := hRz.lt
  have HF := Lib.hid hRz.put1; have HCF := Lib.hid (HC.out.put1 (b := R) (Or.inr (by have := hP.out; omega)))
  clear hRz
  go_wp2_with fail
  have hF := HF.out; have hCF := HCF.out
  refine (id ?_ : bodyPost _ _ _ _ _ ((((((((((((W0.setCell ⟨R, 0, none⟩ (.int .u64 0)).setCell ⟨R, 1, none⟩ (.int .u64 0)).setCell ⟨R, 2, none⟩ (.int .u64 0)).setCell ⟨R, 3, none⟩ (.int .u64 0)).setCell ⟨R, 4, none⟩ (.int .u64 1)).setCell ⟨R, 5, none⟩ (.int .u64 0)).setCell ⟨R, 6, none⟩ (.int .u64 0)).setCell ⟨R, 7, none⟩ (.int .u64 0)).setCell ⟨R, 8, none⟩ (.int .u64 0)).setCell ⟨R, 9, none⟩ (.int .u64 0)).setCell ⟨R, 10, none⟩ (.int .u64 0)).setCell ⟨R, 11, none⟩ (.int .u64 0)))
  clear HF HCF
  generalize ((((((((((((W0.setCell ⟨R, 0, none⟩ (.int .u64 0)).setCell ⟨R, 1, none⟩ (.int .u64 0)).setCell ⟨R, 2, none⟩ (.int .u64 0)).setCell ⟨R, 3, none⟩ (.int .u64 0)).setCell ⟨R, 4, none⟩ (.int .u64 1)).setCell ⟨R, 5, none⟩ (.int .u64 0)).setCell ⟨R, 6, none⟩ (.int .u64 0)).setCell ⟨R, 7, none⟩ (.int .u64 0)).setCell ⟨R, 8, none⟩ (.int .u64 0)).setCell ⟨R, 9, none⟩ (.int .u64 0)).setCell ⟨R, 10, none⟩ (.int .u64 0)).setCell ⟨R, 11, none⟩ (.int .u64 0)) = W5 at *
  have g0 := cell_of_has hF 0; have g1 := cell_of_has hF 1; have g2 := cell_of_has hF 2; have g3 := cell_of_has hF 3; have g4 := cell_of_has hF 4; have g5 := cell_of_has hF 5; have g6 := cell_of_has hF 6; have g7 := cell_of_has hF 7; have g8 := cell_of_has hF 8; have g9 := cell_of_has hF 9; have g10 := cell_of_has hF 10; have g11 := cell_of_has hF 11
  simp only [glA, glB, glC] at g0 g1 g2 g3 g4 g5 g6 g7 g8 g9 g10 g11
  exact bodyPost_ret (v := .agg #[.int .u64 0, .int .u64 0, .int .u64 0, .int .u64 0, .int .u64 1, .int .u64 0, .int .u64 0, .int .u64 0, .int .u64 0, .int .u64 0, .int .u64 0, .int .u64 0]) (by simp [results, Try.results37, go_sem, g0, g1, g2, g3, g4, g5, g6, g7, g8, g9, g10, g11]) rfl ⟨rfl, hCF⟩

set_option maxRecDepth 100000 in
set_option maxHeartbeats 8000000 in
theorem ref_in_aff {x y : Fin PP} {xv yv : Nat} (hx : x.val = xv) (hy : y.val = yv) (w : World) : Calls Try.prog 37 #[.agg #[.int .u64 (lm xv 0 : Nat), .int .u64 (lm xv 1 : Nat), .int .u64 (lm xv 2 : Nat), .int .u64 (lm xv 3 : Nat), .int .u64 (lm yv 0 : Nat), .int .u64 (lm yv 1 : Nat), .int .u64 (lm yv 2 : Nat), .int .u64 (lm yv 3 : Nat), .bool false]] w fun e w' => e = .returned (.agg (ov ⟨x, y, 1⟩)) ∧ Chg [] w w' := by
  have HZ := Lib.hid (show ov ⟨x, y, 1⟩ = #[.int .u64 (lm xv 0 : Nat), .int .u64 (lm xv 1 : Nat), .int .u64 (lm xv 2 : Nat), .int .u64 (lm xv 3 : Nat), .int .u64 (lm yv 0 : Nat), .int .u64 (lm yv 1 : Nat), .int .u64 (lm yv 2 : Nat), .int .u64 (lm yv 3 : Nat), .int .u64 (lm 1 0 : Nat), .int .u64 (lm 1 1 : Nat), .int .u64 (lm 1 2 : Nat), .int .u64 (lm 1 3 : Nat)] from ov_mk hx hy one_val)
  clear hx hy
  obtain ⟨Zr, hZr⟩ : ∃ Z, ov ⟨x, y, 1⟩ = Z := ⟨_, rfl⟩
  rw [hZr] at HZ ⊢
  clear hZr
  obtain ⟨W0, hW0⟩ : ∃ W0, (w.alloc (.cells #[.int .u64 (lm xv 0 : Nat), .int .u64 (lm xv 1 : Nat), .int .u64 (lm xv 2 : Nat), .int .u64 (lm xv 3 : Nat), .int .u64 (lm yv 0 : Nat), .int .u64 (lm yv 1 : Nat), .int .u64 (lm yv 2 : Nat), .int .u64 (lm yv 3 : Nat), .bool false] 26)).alloc (.cells #[.int .u64 0, .int .u64 0, .int .u64 0, .int .u64 0, .int .u64 0, .int .u64 0, .int .u64 0, .int .u64 0, .int .u64 0, .int .u64 0, .int .u64 0, .int .u64 0] 71) = W0 := ⟨_, rfl⟩
  have HB := Lib.hid (show U9 W0 w.heap.size xv yv false by rw [← hW0]; exact has_alloc (has_alloc_new _ _))
  have HR := Lib.hid (show Z12 W0 (w.heap.size + 1) 71 by rw [← hW0]; exact has_alloc_at (by simp))
  have HC := Lib.hid (show Chg [] w W0 by rw [← hW0]; exact ((Chg.refl _ _).alloc _).alloc _)
  obtain ⟨x0, x1, x2, x3⟩ := four4 fun _ => (HB.out).cx; obtain ⟨y0, y1, y2, y3⟩ := four4 fun _ => (HB.out).cy; have ci := HB.out.ci
  go_enter Try.func37, Try.ntmps37
  go_upto_region 3 with fail
  try rw [hW0]
  clear hW0
  obtain ⟨P, hP⟩ : ∃ P, w.heap.size = P := ⟨_, rfl⟩
  rw [hP] at HB HR ci x0 y0 x1 y1 x2 y2 x3 y3 ⊢
  obtain ⟨R, hR⟩ : ∃ R, P + 1 = R := ⟨_, rfl⟩
  rw [hR] at HR ⊢
  have hRP : P < R := by omega
  replace hR := Lib.hid hR
  replace hP := Lib.hid hP
  have hRz := HR.out
  have n0 := cell_of_has hRz 0; have n1 := cell_of_has hRz 1; have n2 := cell_of_has hRz 2; have n3 := cell_of_has hRz 3; have n4 := cell_of_has hRz 4; have n5 := cell_of_has hRz 5; have n6 := cell_of_has hRz 6; have n7 := cell_of_has hRz 7; have n8 := cell_of_has hRz 8; have n9 := cell_of_has hRz 9; have n10 := cell_of_has hRz 10; have n11 := cell_of_has hRz 11
  simp only [glA, glB, glC] at n0 n1 n2 n3 n4 n5 n6 n7 n8 n9 n10 n11
  have nz0 := frozen_of_has hRz 0; have nz1 := frozen_of_has hRz 1; have nz2 := frozen_of_has hRz 2; have nz3 := frozen_of_has hRz 3; have nz4 := frozen_of_has hRz 4; have nz5 := frozen_of_has hRz 5; have nz6 := frozen_of_has hRz 6; have nz7 := frozen_of_has hRz 7; have nz8 := frozen_of_has hRz 8; have nz9 := frozen_of_has hRz 9; have nz10 := frozen_of_has hRz 10; have nz11 := frozen_of_has hRz 11
  have hll := hRz.lt
  have hF0 := hRz.u12.put xv yv 1; have hC0 := HC.out.put12 (b := R) (Or.inr (by have := hP.out; omega)) xv yv 1
  unfold put12 at hF0 hC0
  rw [one_cells.1, one_cells.2.1, one_cells.2.2.1, one_cells.2.2.2] at hF0 hC0
  have HF := Lib.hid hF0; have HCF := Lib.hid hC0
  clear hRz hF0 hC0
  go_wp2_with fail
  have hF := HF.out; have hCF := HCF.out
  refine (id ?_ : bodyPost _ _ _ _ _ ((((((((((((W0.setCell ⟨R, 0, none⟩ (.int .u64 (lm xv 0 : Nat))).setCell ⟨R, 1, none⟩ (.int .u64 (lm xv 1 : Nat))).setCell ⟨R, 2, none⟩ (.int .u64 (lm xv 2 : Nat))).setCell ⟨R, 3, none⟩ (.int .u64 (lm xv 3 : Nat))).setCell ⟨R, 4, none⟩ (.int .u64 (lm yv 0 : Nat))).setCell ⟨R, 5, none⟩ (.int .u64 (lm yv 1 : Nat))).setCell ⟨R, 6, none⟩ (.int .u64 (lm yv 2 : Nat))).setCell ⟨R, 7, none⟩ (.int .u64 (lm yv 3 : Nat))).setCell ⟨R, 8, none⟩ (.int .u64 ((1 : Nat) : Int))).setCell ⟨R, 9, none⟩ (.int .u64 ((0 : Nat) : Int))).setCell ⟨R, 10, none⟩ (.int .u64 ((0 : Nat) : Int))).setCell ⟨R, 11, none⟩ (.int .u64 ((0 : Nat) : Int))))
  clear HF HCF
  generalize ((((((((((((W0.setCell ⟨R, 0, none⟩ (.int .u64 (lm xv 0 : Nat))).setCell ⟨R, 1, none⟩ (.int .u64 (lm xv 1 : Nat))).setCell ⟨R, 2, none⟩ (.int .u64 (lm xv 2 : Nat))).setCell ⟨R, 3, none⟩ (.int .u64 (lm xv 3 : Nat))).setCell ⟨R, 4, none⟩ (.int .u64 (lm yv 0 : Nat))).setCell ⟨R, 5, none⟩ (.int .u64 (lm yv 1 : Nat))).setCell ⟨R, 6, none⟩ (.int .u64 (lm yv 2 : Nat))).setCell ⟨R, 7, none⟩ (.int .u64 (lm yv 3 : Nat))).setCell ⟨R, 8, none⟩ (.int .u64 ((1 : Nat) : Int))).setCell ⟨R, 9, none⟩ (.int .u64 ((0 : Nat) : Int))).setCell ⟨R, 10, none⟩ (.int .u64 ((0 : Nat) : Int))).setCell ⟨R, 11, none⟩ (.int .u64 ((0 : Nat) : Int))) = W5 at *
  have g0 := cell_of_has hF 0; have g1 := cell_of_has hF 1; have g2 := cell_of_has hF 2; have g3 := cell_of_has hF 3; have g4 := cell_of_has hF 4; have g5 := cell_of_has hF 5; have g6 := cell_of_has hF 6; have g7 := cell_of_has hF 7; have g8 := cell_of_has hF 8; have g9 := cell_of_has hF 9; have g10 := cell_of_has hF 10; have g11 := cell_of_has hF 11
  simp only [glA, glB, glC] at g0 g1 g2 g3 g4 g5 g6 g7 g8 g9 g10 g11
  exact bodyPost_ret (v := .agg #[.int .u64 (lm xv 0 : Nat), .int .u64 (lm xv 1 : Nat), .int .u64 (lm xv 2 : Nat), .int .u64 (lm xv 3 : Nat), .int .u64 (lm yv 0 : Nat), .int .u64 (lm yv 1 : Nat), .int .u64 (lm yv 2 : Nat), .int .u64 (lm yv 3 : Nat), .int .u64 (lm 1 0 : Nat), .int .u64 (lm 1 1 : Nat), .int .u64 (lm 1 2 : Nat), .int .u64 (lm 1 3 : Nat)]) (by simp [results, Try.results37, go_sem, g0, g1, g2, g3, g4, g5, g6, g7, g8, g9, g10, g11]) rfl ⟨by rw [HZ.out], hCF⟩

theorem ref_inP (P : Pc) (w : World) : Calls Try.prog 37 #[.agg (pv (ofP P))] w fun e w' => e = .returned (.agg (ov (rin P))) ∧ Chg [] w w' := by
  cases P with
  | inf => exact ref_in_inf w
  | aff x y => exact ref_in_aff rfl rfl w

end Go.Proofs.Ytplldbmjdnikeaa

/- The document's points: the walks of wardmoteref03.Out, Neg, cubic. Printed by refi.py. -/
namespace Go.Proofs.Ytplldbmjdnikeaa
set_option linter.unusedVariables false
set_option linter.unusedSimpArgs false
open Go.RowKit

set_option maxRecDepth 100000 in
set_option maxHeartbeats 8000000 in
theorem rout_z (j : J) (hz : j.z = 0) (w : World) : Calls Try.prog 35 #[.agg (ov j)] w fun e w' => e = .returned (.agg (pv (rout j))) ∧ Chg [] w w' := by
  obtain ⟨Zr, hZr⟩ : ∃ Z, pv (rout j) = Z := ⟨_, rfl⟩
  rw [hZr]

  obtain ⟨Axe, heAx⟩ : ∃ e, j.x = e := ⟨_, rfl⟩
  obtain ⟨Axv, hAxv⟩ : ∃ v, Axe.val = v := ⟨_, rfl⟩
  obtain ⟨Aye, heAy⟩ : ∃ e, j.y = e := ⟨_, rfl⟩
  obtain ⟨Ayv, hAyv⟩ : ∃ v, Aye.val = v := ⟨_, rfl⟩
  obtain ⟨Aze, heAz⟩ : ∃ e, j.z = e := ⟨_, rfl⟩
  obtain ⟨Azv, hAzv⟩ : ∃ v, Aze.val = v := ⟨_, rfl⟩
  have HZ := Lib.hid (show Zr = #[.int .u64 (lm 0 0 : Nat), .int .u64 (lm 0 1 : Nat), .int .u64 (lm 0 2 : Nat), .int .u64 (lm 0 3 : Nat), .int .u64 (lm 0 0 : Nat), .int .u64 (lm 0 1 : Nat), .int .u64 (lm 0 2 : Nat), .int .u64 (lm 0 3 : Nat), .bool true] by rw [← hZr]; unfold rout; rw [if_pos hz]; rfl)
  have Q1 := Lib.hid (fun w => rp_zero hAzv true (by rw [← heAz]; simpa using hz) w)
  have hj : ov j = #[.int .u64 (lm Axv 0 : Nat), .int .u64 (lm Axv 1 : Nat), .int .u64 (lm Axv 2 : Nat), .int .u64 (lm Axv 3 : Nat), .int .u64 (lm Ayv 0 : Nat), .int .u64 (lm Ayv 1 : Nat), .int .u64 (lm Ayv 2 : Nat), .int .u64 (lm Ayv 3 : Nat), .int .u64 (lm Azv 0 : Nat), .int .u64 (lm Azv 1 : Nat), .int .u64 (lm Azv 2 : Nat), .int .u64 (lm Azv 3 : Nat)] := by unfold ov; rw [heAx, heAy, heAz, hAxv, hAyv, hAzv]
  rw [hj]
  clear hj hZr hz heAx heAy heAz hAxv hAyv hAzv
  obtain ⟨W0, hW0⟩ : ∃ W0, (w.alloc (.cells #[.int .u64 (lm Axv 0 : Nat), .int .u64 (lm Axv 1 : Nat), .int .u64 (lm Axv 2 : Nat), .int .u64 (lm Axv 3 : Nat), .int .u64 (lm Ayv 0 : Nat), .int .u64 (lm Ayv 1 : Nat), .int .u64 (lm Ayv 2 : Nat), .int .u64 (lm Ayv 3 : Nat), .int .u64 (lm Azv 0 : Nat), .int .u64 (lm Azv 1 : Nat), .int .u64 (lm Azv 2 : Nat), .int .u64 (lm Azv 3 : Nat)] 71)).alloc (.cells #[.int .u64 0, .int .u64 0, .int .u64 0, .int .u64 0, .int .u64 0, .int .u64 0, .int .u64 0, .int .u64 0, .bool false] 26) = W0 := ⟨_, rfl⟩
  have HBA := Lib.hid (show U12 W0 (w.heap.size) 71 Axv Ayv Azv by rw [← hW0]; exact has_alloc (has_alloc_new _ _))
  have HR := Lib.hid (show U9 W0 (w.heap.size + 1) 0 0 false from U9.zero (by rw [← hW0]; exact has_alloc_at (by simp)))
  have HC := Lib.hid (show Chg [] w W0 by rw [← hW0]; exact ((Chg.refl _ _).alloc _).alloc _)
  obtain ⟨Az0, Az1, Az2, Az3⟩ := four4 fun _ => (HBA.out).cz
  go_enter Try.func35, Try.ntmps35
  go_wp2_with fail
  try rw [hW0]
  clear hW0
  obtain ⟨P, hP⟩ : ∃ P, w.heap.size = P := ⟨_, rfl⟩
  rw [hP] at HBA HR Az0 Az1 Az2 Az3 ⊢
  obtain ⟨R, hR⟩ : ∃ R, P + 1 = R := ⟨_, rfl⟩
  rw [hR] at HR ⊢
  have hRP : P < R := by omega
  replace hR := Lib.hid hR
  replace hP := Lib.hid hP
  refine (Q1.out _).mono ?_
  rintro e w1 ⟨rfl, hC1⟩
  clear Az0 Az1 Az2 Az3
  replace HBA := Lib.hid (HBA.out.chg hC1 nmN)
  replace HR := Lib.hid (HR.out.chg hC1 nmN)
  replace HC := Lib.hid (HC.out.trans hC1)
  clear hC1
  go_upto_region 2 with fail
  have hRz := HR.out
  obtain ⟨n0, n1, n2, n3, n4, n5, n6, n7, n8⟩ := hRz.all
  have nz0 := hRz.fz 0; have nz1 := hRz.fz 1; have nz2 := hRz.fz 2; have nz3 := hRz.fz 3; have nz4 := hRz.fz 4; have nz5 := hRz.fz 5; have nz6 := hRz.fz 6; have nz7 := hRz.fz 7; have nz8 := hRz.fz 8
  have hll := hRz.lt
  rw [lm_zero] at n0 n1 n2 n3 n4 n5 n6 n7
  have hF9 := hRz.put 0 0 true; have hCF9 := HC.out.put9 (b := R) (Or.inr (by have := hP.out; omega)) 0 0 true
  simp only [put9, lm_zero] at hF9 hCF9
  have HF9 := Lib.hid hF9; have HCF := Lib.hid hCF9
  clear hRz hF9 hCF9
  go_wp2_with fail
  have hF := HF9.out; have hCF := HCF.out
  refine (id ?_ : bodyPost _ _ _ _ _ ((((((((((w1.setCell ⟨R, 0, none⟩ (.int .u64 ((0 : Nat) : Int))).setCell ⟨R, 1, none⟩ (.int .u64 ((0 : Nat) : Int))).setCell ⟨R, 2, none⟩ (.int .u64 ((0 : Nat) : Int))).setCell ⟨R, 3, none⟩ (.int .u64 ((0 : Nat) : Int))).setCell ⟨R, 4, none⟩ (.int .u64 ((0 : Nat) : Int))).setCell ⟨R, 5, none⟩ (.int .u64 ((0 : Nat) : Int))).setCell ⟨R, 6, none⟩ (.int .u64 ((0 : Nat) : Int))).setCell ⟨R, 7, none⟩ (.int .u64 ((0 : Nat) : Int))).setCell ⟨R, 8, none⟩ (.bool true))))
  clear HF9 HCF
  generalize (((((((((w1.setCell ⟨R, 0, none⟩ (.int .u64 ((0 : Nat) : Int))).setCell ⟨R, 1, none⟩ (.int .u64 ((0 : Nat) : Int))).setCell ⟨R, 2, none⟩ (.int .u64 ((0 : Nat) : Int))).setCell ⟨R, 3, none⟩ (.int .u64 ((0 : Nat) : Int))).setCell ⟨R, 4, none⟩ (.int .u64 ((0 : Nat) : Int))).setCell ⟨R, 5, none⟩ (.int .u64 ((0 : Nat) : Int))).setCell ⟨R, 6, none⟩ (.int .u64 ((0 : Nat) : Int))).setCell ⟨R, 7, none⟩ (.int .u64 ((0 : Nat) : Int))).setCell ⟨R, 8, none⟩ (.bool true)) = W5 at *
  obtain ⟨g0, g1, g2, g3, g4, g5, g6, g7, g8⟩ := hF.all
  rw [lm_zero] at g0 g1 g2 g3 g4 g5 g6 g7
  exact bodyPost_ret (v := .agg #[.int .u64 (lm 0 0 : Nat), .int .u64 (lm 0 1 : Nat), .int .u64 (lm 0 2 : Nat), .int .u64 (lm 0 3 : Nat), .int .u64 (lm 0 0 : Nat), .int .u64 (lm 0 1 : Nat), .int .u64 (lm 0 2 : Nat), .int .u64 (lm 0 3 : Nat), .bool true]) (by simp [results, Try.results35, go_sem, lm_zero, g0, g1, g2, g3, g4, g5, g6, g7, g8]) rfl ⟨by rw [HZ.out], hCF⟩

set_option maxRecDepth 100000 in
set_option maxHeartbeats 8000000 in
theorem rout_n (j : J) (hz : ¬ j.z = 0) (w : World) : Calls Try.prog 35 #[.agg (ov j)] w fun e w' => e = .returned (.agg (pv (rout j))) ∧ Chg [] w w' := by
  obtain ⟨Zr, hZr⟩ : ∃ Z, pv (rout j) = Z := ⟨_, rfl⟩
  rw [hZr]

  obtain ⟨Axe, heAx⟩ : ∃ e, j.x = e := ⟨_, rfl⟩
  obtain ⟨Axv, hAxv⟩ : ∃ v, Axe.val = v := ⟨_, rfl⟩
  obtain ⟨Aye, heAy⟩ : ∃ e, j.y = e := ⟨_, rfl⟩
  obtain ⟨Ayv, hAyv⟩ : ∃ v, Aye.val = v := ⟨_, rfl⟩
  obtain ⟨Aze, heAz⟩ : ∃ e, j.z = e := ⟨_, rfl⟩
  obtain ⟨Azv, hAzv⟩ : ∃ v, Aze.val = v := ⟨_, rfl⟩
  obtain ⟨ei, hei⟩ : ∃ e, finv Aze = e := ⟨_, rfl⟩
  obtain ⟨iv, hiv⟩ : ∃ v, ei.val = v := ⟨_, rfl⟩
  obtain ⟨rx, hrx⟩ : ∃ v, (Axe * ei).val = v := ⟨_, rfl⟩
  obtain ⟨ry, hry⟩ : ∃ v, (Aye * ei).val = v := ⟨_, rfl⟩
  have HZ := Lib.hid (show Zr = #[.int .u64 (lm rx 0 : Nat), .int .u64 (lm rx 1 : Nat), .int .u64 (lm rx 2 : Nat), .int .u64 (lm rx 3 : Nat), .int .u64 (lm ry 0 : Nat), .int .u64 (lm ry 1 : Nat), .int .u64 (lm ry 2 : Nat), .int .u64 (lm ry 3 : Nat), .bool false] by
    rw [← hZr]; unfold rout; rw [if_neg hz]
    subst hrx; subst hry; subst hei; subst heAx; subst heAy; subst heAz
    rfl)
  have C1 := Lib.hid (fun w => rp_inv hAzv (t := iv) (by rw [hei]; exact hiv) w)
  have C2 := Lib.hid (fun w => rp_mul hAxv hiv hrx w)
  have C3 := Lib.hid (fun w => rp_mul hAyv hiv hry w)
  have Q1 := Lib.hid (fun w => rp_zero hAzv false (by rw [← heAz]; simpa using hz) w)
  have HBase := Lib.hid rp_base
  have hj : ov j = #[.int .u64 (lm Axv 0 : Nat), .int .u64 (lm Axv 1 : Nat), .int .u64 (lm Axv 2 : Nat), .int .u64 (lm Axv 3 : Nat), .int .u64 (lm Ayv 0 : Nat), .int .u64 (lm Ayv 1 : Nat), .int .u64 (lm Ayv 2 : Nat), .int .u64 (lm Ayv 3 : Nat), .int .u64 (lm Azv 0 : Nat), .int .u64 (lm Azv 1 : Nat), .int .u64 (lm Azv 2 : Nat), .int .u64 (lm Azv 3 : Nat)] := by unfold ov; rw [heAx, heAy, heAz, hAxv, hAyv, hAzv]
  rw [hj]
  clear hj hZr hz hei hiv hrx hry heAx heAy heAz hAxv hAyv hAzv
  obtain ⟨W0, hW0⟩ : ∃ W0, (w.alloc (.cells #[.int .u64 (lm Axv 0 : Nat), .int .u64 (lm Axv 1 : Nat), .int .u64 (lm Axv 2 : Nat), .int .u64 (lm Axv 3 : Nat), .int .u64 (lm Ayv 0 : Nat), .int .u64 (lm Ayv 1 : Nat), .int .u64 (lm Ayv 2 : Nat), .int .u64 (lm Ayv 3 : Nat), .int .u64 (lm Azv 0 : Nat), .int .u64 (lm Azv 1 : Nat), .int .u64 (lm Azv 2 : Nat), .int .u64 (lm Azv 3 : Nat)] 71)).alloc (.cells #[.int .u64 0, .int .u64 0, .int .u64 0, .int .u64 0, .int .u64 0, .int .u64 0, .int .u64 0, .int .u64 0, .bool false] 26) = W0 := ⟨_, rfl⟩
  have HBA := Lib.hid (show U12 W0 (w.heap.size) 71 Axv Ayv Azv by rw [← hW0]; exact has_alloc (has_alloc_new _ _))
  have HR := Lib.hid (show U9 W0 (w.heap.size + 1) 0 0 false from U9.zero (by rw [← hW0]; exact has_alloc_at (by simp)))
  have HC := Lib.hid (show Chg [] w W0 by rw [← hW0]; exact ((Chg.refl _ _).alloc _).alloc _)
  obtain ⟨Az0, Az1, Az2, Az3⟩ := four4 fun _ => (HBA.out).cz
  go_enter Try.func35, Try.ntmps35
  go_wp2_with fail
  try rw [hW0]
  clear hW0
  obtain ⟨P, hP⟩ : ∃ P, w.heap.size = P := ⟨_, rfl⟩
  rw [hP] at HBA HR Az0 Az1 Az2 Az3 ⊢
  obtain ⟨R, hR⟩ : ∃ R, P + 1 = R := ⟨_, rfl⟩
  rw [hR] at HR ⊢
  have hRP : P < R := by omega
  replace hR := Lib.hid hR
  replace hP := Lib.hid hP
  refine (Q1.out _).mono ?_
  rintro e w1 ⟨rfl, hC1⟩
  clear Az0 Az1 Az2 Az3
  replace HBA := Lib.hid (HBA.out.chg hC1 nmN)
  replace HR := Lib.hid (HR.out.chg hC1 nmN)
  replace HC := Lib.hid (HC.out.trans hC1)
  clear hC1
  go_wp2_with fail
  refine (HBase.out _).mono ?_
  rintro e w1 ⟨rfl, hC1⟩
  replace HBA := Lib.hid (HBA.out.chg hC1 nmN)
  replace HR := Lib.hid (HR.out.chg hC1 nmN)
  replace HC := Lib.hid (HC.out.trans hC1)
  clear hC1
  obtain ⟨W1, hW1⟩ : ∃ W1, w1.alloc (.cells #[.int .u64 (lm PP 0 : Nat), .int .u64 (lm PP 1 : Nat), .int .u64 (lm PP 2 : Nat), .int .u64 (lm PP 3 : Nat), .int .u64 (lm cP 0 : Nat), .int .u64 (lm cP 1 : Nat), .int .u64 (lm cP 2 : Nat), .int .u64 (lm cP 3 : Nat)] 76) = W1 := ⟨_, rfl⟩
  have hA : Chg [] w1 W1 := by rw [← hW1]; exact (Chg.refl _ _).alloc _
  have hN : UD W1 w1.heap.size PP cP := by rw [← hW1]; exact has_alloc_new _ _
  obtain ⟨bD, hb⟩ : ∃ b, w1.heap.size = b := ⟨_, rfl⟩
  have lD : R < bD := by rw [← hb]; exact HR.out.lt
  rw [hb] at hN
  replace HBA := Lib.hid (HBA.out.chg hA nmN)
  replace HR := Lib.hid (HR.out.chg hA nmN)
  replace HC := Lib.hid (HC.out.trans hA)
  have HD := Lib.hid hN
  go_upto_region 4 with fail
  try rw [hW1]
  try rw [hb]
  clear hW1 hb hA hN
  obtain ⟨D0, D1, D2, D3⟩ := four4 fun _ => (HD.out).cm; obtain ⟨D4, D5, D6, D7⟩ := four4 fun _ => (HD.out).cc
  obtain ⟨Az0, Az1, Az2, Az3⟩ := four4 fun _ => (HBA.out).cz
  go_wp2_with fail
  refine (C1.out _).mono ?_
  rintro e w1 ⟨rfl, hC1⟩
  clear D0 D1 D2 D3 D4 D5 D6 D7 Az0 Az1 Az2 Az3
  replace HBA := Lib.hid (HBA.out.chg hC1 nmN)
  replace HR := Lib.hid (HR.out.chg hC1 nmN)
  replace HC := Lib.hid (HC.out.trans hC1)
  replace HD := Lib.hid (HD.out.chg hC1 nmN)
  clear hC1
  obtain ⟨W1, hW1⟩ : ∃ W1, w1.alloc (.cells #[.int .u64 (lm iv 0 : Nat), .int .u64 (lm iv 1 : Nat), .int .u64 (lm iv 2 : Nat), .int .u64 (lm iv 3 : Nat)] 24) = W1 := ⟨_, rfl⟩
  have hA : Chg [] w1 W1 := by rw [← hW1]; exact (Chg.refl _ _).alloc _
  have hN : U4 W1 w1.heap.size 24 (lm iv) := by rw [← hW1]; exact has_alloc_new _ _
  obtain ⟨bi, hb⟩ : ∃ b, w1.heap.size = b := ⟨_, rfl⟩
  have li : R < bi := by rw [← hb]; exact HR.out.lt
  rw [hb] at hN
  replace HBA := Lib.hid (HBA.out.chg hA nmN)
  replace HR := Lib.hid (HR.out.chg hA nmN)
  replace HC := Lib.hid (HC.out.trans hA)
  replace HD := Lib.hid (HD.out.chg hA nmN)
  have H_i := Lib.hid hN
  go_upto_region 5 with fail
  try rw [hW1]
  try rw [hb]
  clear hW1 hb hA hN
  obtain ⟨D0, D1, D2, D3⟩ := four4 fun _ => (HD.out).cm; obtain ⟨D4, D5, D6, D7⟩ := four4 fun _ => (HD.out).cc
  obtain ⟨Ax0, Ax1, Ax2, Ax3⟩ := four4 fun _ => (HBA.out).cx; obtain ⟨Ay0, Ay1, Ay2, Ay3⟩ := four4 fun _ => (HBA.out).cy
  obtain ⟨i_0, i_1, i_2, i_3⟩ := four4 fun _ => (H_i.out).cell
  have hRz := HR.out
  unfold U9 at hRz
  rw [lm_zero, lm_zero, lm_zero, lm_zero] at hRz
  refine abs_region (B := Chg [R] W1) (S := fun w => Chg [R] W1 w ∧ w.heap[R]? = some (.cells #[.int .u64 0, .int .u64 0, .int .u64 0, .int .u64 0, .int .u64 0, .int .u64 0, .int .u64 0, .int .u64 0, .bool false] 26 (0, 0))) (by kernel_rfl) ⟨(Chg.refl _ _).drew, hRz⟩ ?_
  have hG := good_at [R] W1 R (.cells #[.int .u64 0, .int .u64 0, .int .u64 0, .int .u64 0, .int .u64 0, .int .u64 0, .int .u64 0, .int .u64 0, .bool false] 26 (0, 0))
  refine Abs.take_np (i := 0) (d := some 14) (v := ?_) rfl rfl (by kernel_rfl) (by kernel_rfl) (by kernel_rfl) hG ⟨by rfl, fun w9 hw9 => Or.inl ?_⟩ ?_
  rotate_left
  · replace D0 := hw9.cell D0 (by simp; omega); replace D1 := hw9.cell D1 (by simp; omega); replace D2 := hw9.cell D2 (by simp; omega); replace D3 := hw9.cell D3 (by simp; omega); replace D4 := hw9.cell D4 (by simp; omega); replace D5 := hw9.cell D5 (by simp; omega); replace D6 := hw9.cell D6 (by simp; omega); replace D7 := hw9.cell D7 (by simp; omega)
    go_simp
    try with_reducible rfl
  simp only [Act.put, stA, stB, stC]
  refine Abs.take_np (i := 1) (d := some 15) (v := ?_) rfl rfl (by kernel_rfl) (by kernel_rfl) (by kernel_rfl) hG ⟨by rfl, fun w9 hw9 => Or.inl ?_⟩ ?_
  rotate_left
  · go_simp
    try with_reducible rfl
  simp only [Act.put, stA, stB, stC]
  refine Abs.take_np (i := 2) (d := some 16) (v := ?_) rfl rfl (by kernel_rfl) (by kernel_rfl) (by kernel_rfl) hG ⟨by rfl, fun w9 hw9 => Or.inl ?_⟩ ?_
  rotate_left
  · replace Ax0 := hw9.cell Ax0 (by simp; omega); replace Ax1 := hw9.cell Ax1 (by simp; omega); replace Ax2 := hw9.cell Ax2 (by simp; omega); replace Ax3 := hw9.cell Ax3 (by simp; omega)
    go_simp
    try with_reducible rfl
  simp only [Act.put, stA, stB, stC]
  refine Abs.take_np (i := 3) (d := some 17) (v := ?_) rfl rfl (by kernel_rfl) (by kernel_rfl) (by kernel_rfl) hG ⟨by rfl, fun w9 hw9 => Or.inl ?_⟩ ?_
  rotate_left
  · replace i_0 := hw9.cell i_0 (by simp; omega); replace i_1 := hw9.cell i_1 (by simp; omega); replace i_2 := hw9.cell i_2 (by simp; omega); replace i_3 := hw9.cell i_3 (by simp; omega)
    go_simp
    try with_reducible rfl
  simp only [Act.put, stA, stB, stC]
  refine Abs.take_np (i := 4) (d := some 18) (v := _) rfl rfl (by kernel_rfl) (by kernel_rfl) (by kernel_rfl) hG ⟨by rfl, fun w9 hw9 => Or.inr ⟨_, _, ?_, C2.out w9⟩⟩ ?_
  · go_simp
    try with_reducible rfl
  simp only [Act.put, stA, stB, stC]
  refine Abs.take_np (i := 5) (d := some 19) (v := ?_) rfl rfl (by kernel_rfl) (by kernel_rfl) (by kernel_rfl) hG ⟨by rfl, fun w9 hw9 => Or.inl ?_⟩ ?_
  rotate_left
  · replace D0 := hw9.cell D0 (by simp; omega); replace D1 := hw9.cell D1 (by simp; omega); replace D2 := hw9.cell D2 (by simp; omega); replace D3 := hw9.cell D3 (by simp; omega); replace D4 := hw9.cell D4 (by simp; omega); replace D5 := hw9.cell D5 (by simp; omega); replace D6 := hw9.cell D6 (by simp; omega); replace D7 := hw9.cell D7 (by simp; omega)
    go_simp
    try with_reducible rfl
  simp only [Act.put, stA, stB, stC]
  refine Abs.take_np (i := 6) (d := some 20) (v := ?_) rfl rfl (by kernel_rfl) (by kernel_rfl) (by kernel_rfl) hG ⟨by rfl, fun w9 hw9 => Or.inl ?_⟩ ?_
  rotate_left
  · go_simp
    try with_reducible rfl
  simp only [Act.put, stA, stB, stC]
  refine Abs.take_np (i := 7) (d := some 21) (v := ?_) rfl rfl (by kernel_rfl) (by kernel_rfl) (by kernel_rfl) hG ⟨by rfl, fun w9 hw9 => Or.inl ?_⟩ ?_
  rotate_left
  · replace Ay0 := hw9.cell Ay0 (by simp; omega); replace Ay1 := hw9.cell Ay1 (by simp; omega); replace Ay2 := hw9.cell Ay2 (by simp; omega); replace Ay3 := hw9.cell Ay3 (by simp; omega)
    go_simp
    try with_reducible rfl
  simp only [Act.put, stA, stB, stC]
  refine Abs.take_np (i := 8) (d := some 22) (v := ?_) rfl rfl (by kernel_rfl) (by kernel_rfl) (by kernel_rfl) hG ⟨by rfl, fun w9 hw9 => Or.inl ?_⟩ ?_
  rotate_left
  · replace i_0 := hw9.cell i_0 (by simp; omega); replace i_1 := hw9.cell i_1 (by simp; omega); replace i_2 := hw9.cell i_2 (by simp; omega); replace i_3 := hw9.cell i_3 (by simp; omega)
    go_simp
    try with_reducible rfl
  simp only [Act.put, stA, stB, stC]
  refine Abs.take_np (i := 9) (d := some 23) (v := _) rfl rfl (by kernel_rfl) (by kernel_rfl) (by kernel_rfl) hG ⟨by rfl, fun w9 hw9 => Or.inr ⟨_, _, ?_, C3.out w9⟩⟩ ?_
  · go_simp
    try with_reducible rfl
  simp only [Act.put, stA, stB, stC]
  refine Abs.take_np (i := 10) (d := some 24) (v := ?_) rfl rfl (by kernel_rfl) (by kernel_rfl) (by kernel_rfl) hG ⟨by rfl, fun w9 hw9 => Or.inl ?_⟩ ?_
  rotate_left
  · go_simp
    try with_reducible rfl
  simp only [Act.put, stA, stB, stC]
  refine Abs.store4 (i := 11) (b := R) (ds := #[.int .u64 (lm rx 0 : Nat), .int .u64 (lm rx 1 : Nat), .int .u64 (lm rx 2 : Nat), .int .u64 (lm rx 3 : Nat), .int .u64 (lm ry 0 : Nat), .int .u64 (lm ry 1 : Nat), .int .u64 (lm ry 2 : Nat), .int .u64 (lm ry 3 : Nat), .bool false]) rfl (by kernel_rfl) (by rfl) (fun w9 => (((((((((w9.setCell ⟨R, 0, none⟩ (.int .u64 (lm rx 0 : Nat))).setCell ⟨R, 1, none⟩ (.int .u64 (lm rx 1 : Nat))).setCell ⟨R, 2, none⟩ (.int .u64 (lm rx 2 : Nat))).setCell ⟨R, 3, none⟩ (.int .u64 (lm rx 3 : Nat))).setCell ⟨R, 4, none⟩ (.int .u64 (lm ry 0 : Nat))).setCell ⟨R, 5, none⟩ (.int .u64 (lm ry 1 : Nat))).setCell ⟨R, 6, none⟩ (.int .u64 (lm ry 2 : Nat))).setCell ⟨R, 7, none⟩ (.int .u64 (lm ry 3 : Nat))).setCell ⟨R, 8, none⟩ (.bool false))) (fun w9 h9 => ⟨?_, ?_, ?_⟩) (fun _ _ h k => Chg.keeps (Or.inl (by simp)) h k) (good_chg [R] W1) (fun hG => ?_)
  · have n0 := cell_of_has h9 0; have n1 := cell_of_has h9 1; have n2 := cell_of_has h9 2; have n3 := cell_of_has h9 3; have n4 := cell_of_has h9 4; have n5 := cell_of_has h9 5; have n6 := cell_of_has h9 6; have n7 := cell_of_has h9 7; have n8 := cell_of_has h9 8
    simp only [glA, glB, glC] at n0 n1 n2 n3 n4 n5 n6 n7 n8
    have nz0 := frozen_of_has h9 0; have nz1 := frozen_of_has h9 1; have nz2 := frozen_of_has h9 2; have nz3 := frozen_of_has h9 3; have nz4 := frozen_of_has h9 4; have nz5 := frozen_of_has h9 5; have nz6 := frozen_of_has h9 6; have nz7 := frozen_of_has h9 7; have nz8 := frozen_of_has h9 8
    clear h9
    go_simp
    try with_reducible rfl
  · exact U9.put (U9.zero h9) rx ry false
  · exact Chg.put9 (Chg.refl _ _) (Or.inl (by simp)) rx ry false
  refine Abs.at_put (d := none) rfl ?_
  simp only [Act.put, stA, stB, stC]
  refine Abs.done (by kernel_rfl) (fun wx hx => NoPanic.normal ?_) _
  obtain ⟨hA, hN⟩ := hx
  have hCF : Chg [] w wx := HC.out.trans_new hA (by simp; have := hP.out; omega)
  have g0 := cell_of_has hN 0; have g1 := cell_of_has hN 1; have g2 := cell_of_has hN 2; have g3 := cell_of_has hN 3; have g4 := cell_of_has hN 4; have g5 := cell_of_has hN 5; have g6 := cell_of_has hN 6; have g7 := cell_of_has hN 7; have g8 := cell_of_has hN 8
  simp only [glA, glB, glC] at g0 g1 g2 g3 g4 g5 g6 g7 g8
  go_wp2_with fail
  exact bodyPost_ret (v := .agg #[.int .u64 (lm rx 0 : Nat), .int .u64 (lm rx 1 : Nat), .int .u64 (lm rx 2 : Nat), .int .u64 (lm rx 3 : Nat), .int .u64 (lm ry 0 : Nat), .int .u64 (lm ry 1 : Nat), .int .u64 (lm ry 2 : Nat), .int .u64 (lm ry 3 : Nat), .bool false]) (by simp [results, Try.results35, go_sem, g0, g1, g2, g3, g4, g5, g6, g7, g8]) rfl ⟨by rw [HZ.out], hCF⟩

theorem ref_out (j : J) (w : World) : Calls Try.prog 35 #[.agg (ov j)] w fun e w' => e = .returned (.agg (pv (rout j))) ∧ Chg [] w w' := by
  by_cases hz : j.z = 0
  · exact rout_z j hz w
  · exact rout_n j hz w

set_option maxRecDepth 100000 in
set_option maxHeartbeats 8000000 in
theorem ref_neg (P : Pc) (w : World) : Calls Try.prog 16 #[.agg (pv (ofP P))] w fun e w' => e = .returned (.agg (pv (ofP P.neg))) ∧ Chg [] w w' := by
  obtain ⟨hnx, hni, y, hy, hny⟩ := ofP_neg P
  obtain ⟨px, hpx⟩ : ∃ t, (ofP P).x = t := ⟨_, rfl⟩
  obtain ⟨py, hpy⟩ : ∃ t, (ofP P).y = t := ⟨_, rfl⟩
  obtain ⟨pi, hpi⟩ : ∃ t, (ofP P).inf = t := ⟨_, rfl⟩
  obtain ⟨ny, hnye⟩ : ∃ t, (ofP P.neg).y = t := ⟨_, rfl⟩
  have ep : pv (ofP P) = #[.int .u64 (lm px 0 : Nat), .int .u64 (lm px 1 : Nat), .int .u64 (lm px 2 : Nat), .int .u64 (lm px 3 : Nat), .int .u64 (lm py 0 : Nat), .int .u64 (lm py 1 : Nat), .int .u64 (lm py 2 : Nat), .int .u64 (lm py 3 : Nat), .bool pi] := by unfold pv; rw [hpx, hpy, hpi]
  have er : pv (ofP P.neg) = #[.int .u64 (lm px 0 : Nat), .int .u64 (lm px 1 : Nat), .int .u64 (lm px 2 : Nat), .int .u64 (lm px 3 : Nat), .int .u64 (lm ny 0 : Nat), .int .u64 (lm ny 1 : Nat), .int .u64 (lm ny 2 : Nat), .int .u64 (lm ny 3 : Nat), .bool pi] := by unfold pv; rw [hnx, hni, hnye, hpx, hpi]
  rw [hpy] at hy
  rw [hnye] at hny
  have h0 : (0 : Fin PP) - y = -y := by grind -lia -linarith (ringSteps := 200000)
  have c1 := fun w => rp_sub (x := 0) zero_val hy (t := ny) (by rw [h0]; exact hny) w
  have hz4 : (#[.int .u64 (lm 0 0 : Nat), .int .u64 (lm 0 1 : Nat), .int .u64 (lm 0 2 : Nat), .int .u64 (lm 0 3 : Nat)] : Array Value) = #[.int .u64 0, .int .u64 0, .int .u64 0, .int .u64 0] := num_zero
  rw [hz4] at c1
  have C1 := Lib.hid c1; have HBase := Lib.hid rp_base
  rw [ep, er]
  clear c1 hz4 h0 hnx hni hy hny hpx hpy hpi hnye ep er
  obtain ⟨W0, hW0⟩ : ∃ W0, (w.alloc (.cells #[.int .u64 (lm px 0 : Nat), .int .u64 (lm px 1 : Nat), .int .u64 (lm px 2 : Nat), .int .u64 (lm px 3 : Nat), .int .u64 (lm py 0 : Nat), .int .u64 (lm py 1 : Nat), .int .u64 (lm py 2 : Nat), .int .u64 (lm py 3 : Nat), .bool pi] 26)).alloc (.cells #[.int .u64 0, .int .u64 0, .int .u64 0, .int .u64 0, .int .u64 0, .int .u64 0, .int .u64 0, .int .u64 0, .bool false] 26) = W0 := ⟨_, rfl⟩
  have HB := Lib.hid (show U9 W0 (w.heap.size) px py pi by rw [← hW0]; exact has_alloc (has_alloc_new _ _))
  have HR := Lib.hid (show U9 W0 (w.heap.size + 1) 0 0 false from U9.zero (by rw [← hW0]; exact has_alloc_at (by simp)))
  have HC := Lib.hid (show Chg [] w W0 by rw [← hW0]; exact ((Chg.refl _ _).alloc _).alloc _)
  go_enter Try.func16, Try.ntmps16
  go_wp2_with fail
  try rw [hW0]
  clear hW0
  obtain ⟨P0, hP⟩ : ∃ P, w.heap.size = P := ⟨_, rfl⟩
  rw [hP] at HB HR ⊢
  obtain ⟨R, hR⟩ : ∃ R, P0 + 1 = R := ⟨_, rfl⟩
  rw [hR] at HR ⊢
  have hRP : P0 < R := by omega
  replace hR := Lib.hid hR
  replace hP := Lib.hid hP
  refine (HBase.out _).mono ?_
  rintro e w1 ⟨rfl, hC1⟩
  replace HB := Lib.hid (HB.out.chg hC1 nmN)
  replace HR := Lib.hid (HR.out.chg hC1 nmN)
  replace HC := Lib.hid (HC.out.trans hC1)
  clear hC1
  obtain ⟨W1, hW1⟩ : ∃ W1, w1.alloc (.cells #[.int .u64 (lm PP 0 : Nat), .int .u64 (lm PP 1 : Nat), .int .u64 (lm PP 2 : Nat), .int .u64 (lm PP 3 : Nat), .int .u64 (lm cP 0 : Nat), .int .u64 (lm cP 1 : Nat), .int .u64 (lm cP 2 : Nat), .int .u64 (lm cP 3 : Nat)] 76) = W1 := ⟨_, rfl⟩
  have hA : Chg [] w1 W1 := by rw [← hW1]; exact (Chg.refl _ _).alloc _
  have hN : UD W1 w1.heap.size PP cP := by rw [← hW1]; exact has_alloc_new _ _
  obtain ⟨bD, hb⟩ : ∃ b, w1.heap.size = b := ⟨_, rfl⟩
  have lD : R < bD := by rw [← hb]; exact HR.out.lt
  rw [hb] at hN
  replace HB := Lib.hid (HB.out.chg hA nmN)
  replace HR := Lib.hid (HR.out.chg hA nmN)
  replace HC := Lib.hid (HC.out.trans hA)
  have HD := Lib.hid hN
  go_upto_region 2 with fail
  try rw [hW1]
  try rw [hb]
  clear hW1 hb hA hN
  obtain ⟨D0, D1, D2, D3⟩ := four4 fun _ => (HD.out).cm; obtain ⟨D4, D5, D6, D7⟩ := four4 fun _ => (HD.out).cc
  obtain ⟨x0, x1, x2, x3⟩ := four4 fun _ => (HB.out).cx; obtain ⟨y0, y1, y2, y3⟩ := four4 fun _ => (HB.out).cy; have i0 := HB.out.ci
  have hRz := HR.out
  unfold U9 at hRz
  rw [lm_zero, lm_zero, lm_zero, lm_zero] at hRz
  refine abs_region (B := Chg [R] W1) (S := fun w => Chg [R] W1 w ∧ w.heap[R]? = some (.cells #[.int .u64 0, .int .u64 0, .int .u64 0, .int .u64 0, .int .u64 0, .int .u64 0, .int .u64 0, .int .u64 0, .bool false] 26 (0, 0))) (by kernel_rfl) ⟨(Chg.refl _ _).drew, hRz⟩ ?_
  have hG := good_at [R] W1 R (.cells #[.int .u64 0, .int .u64 0, .int .u64 0, .int .u64 0, .int .u64 0, .int .u64 0, .int .u64 0, .int .u64 0, .bool false] 26 (0, 0))
  refine Abs.take_np (i := 0) (d := some 5) (v := ?_) rfl rfl (by kernel_rfl) (by kernel_rfl) (by kernel_rfl) hG ⟨by rfl, fun w9 hw9 => Or.inl ?_⟩ ?_
  rotate_left
  · go_simp
    try with_reducible rfl
  simp only [Act.put, stA, stB, stC]
  refine Abs.take_np (i := 1) (d := some 6) (v := ?_) rfl rfl (by kernel_rfl) (by kernel_rfl) (by kernel_rfl) hG ⟨by rfl, fun w9 hw9 => Or.inl ?_⟩ ?_
  rotate_left
  · replace x0 := hw9.cell x0 (by simp; omega); replace x1 := hw9.cell x1 (by simp; omega); replace x2 := hw9.cell x2 (by simp; omega); replace x3 := hw9.cell x3 (by simp; omega)
    go_simp
    try with_reducible rfl
  simp only [Act.put, stA, stB, stC]
  refine Abs.take_np (i := 2) (d := some 7) (v := ?_) rfl rfl (by kernel_rfl) (by kernel_rfl) (by kernel_rfl) hG ⟨by rfl, fun w9 hw9 => Or.inl ?_⟩ ?_
  rotate_left
  · replace D0 := hw9.cell D0 (by simp; omega); replace D1 := hw9.cell D1 (by simp; omega); replace D2 := hw9.cell D2 (by simp; omega); replace D3 := hw9.cell D3 (by simp; omega); replace D4 := hw9.cell D4 (by simp; omega); replace D5 := hw9.cell D5 (by simp; omega); replace D6 := hw9.cell D6 (by simp; omega); replace D7 := hw9.cell D7 (by simp; omega)
    go_simp
    try with_reducible rfl
  simp only [Act.put, stA, stB, stC]
  refine Abs.take_np (i := 3) (d := some 8) (v := ?_) rfl rfl (by kernel_rfl) (by kernel_rfl) (by kernel_rfl) hG ⟨by rfl, fun w9 hw9 => Or.inl ?_⟩ ?_
  rotate_left
  · go_simp
    try with_reducible rfl
  simp only [Act.put, stA, stB, stC]
  refine Abs.take_np (i := 4) (d := some 9) (v := ?_) rfl rfl (by kernel_rfl) (by kernel_rfl) (by kernel_rfl) hG ⟨by rfl, fun w9 hw9 => Or.inl ?_⟩ ?_
  rotate_left
  · go_simp
    try with_reducible rfl
  simp only [Act.put, stA, stB, stC]
  refine Abs.take_np (i := 5) (d := some 10) (v := ?_) rfl rfl (by kernel_rfl) (by kernel_rfl) (by kernel_rfl) hG ⟨by rfl, fun w9 hw9 => Or.inl ?_⟩ ?_
  rotate_left
  · replace y0 := hw9.cell y0 (by simp; omega); replace y1 := hw9.cell y1 (by simp; omega); replace y2 := hw9.cell y2 (by simp; omega); replace y3 := hw9.cell y3 (by simp; omega)
    go_simp
    try with_reducible rfl
  simp only [Act.put, stA, stB, stC]
  refine Abs.take_np (i := 6) (d := some 11) (v := _) rfl rfl (by kernel_rfl) (by kernel_rfl) (by kernel_rfl) hG ⟨by rfl, fun w9 hw9 => Or.inr ⟨_, _, ?_, C1.out w9⟩⟩ ?_
  · go_simp
    try with_reducible rfl
  simp only [Act.put, stA, stB, stC]
  refine Abs.take_np (i := 7) (d := some 12) (v := ?_) rfl rfl (by kernel_rfl) (by kernel_rfl) (by kernel_rfl) hG ⟨by rfl, fun w9 hw9 => Or.inl ?_⟩ ?_
  rotate_left
  · go_simp
    try with_reducible rfl
  simp only [Act.put, stA, stB, stC]
  refine Abs.take_np (i := 8) (d := some 13) (v := ?_) rfl rfl (by kernel_rfl) (by kernel_rfl) (by kernel_rfl) hG ⟨by rfl, fun w9 hw9 => Or.inl ?_⟩ ?_
  rotate_left
  · replace i0 := hw9.cell i0 (by simp; omega)
    go_simp
    try with_reducible rfl
  simp only [Act.put, stA, stB, stC]
  refine Abs.take_np (i := 9) (d := some 14) (v := ?_) rfl rfl (by kernel_rfl) (by kernel_rfl) (by kernel_rfl) hG ⟨by rfl, fun w9 hw9 => Or.inl ?_⟩ ?_
  rotate_left
  · go_simp
    try with_reducible rfl
  simp only [Act.put, stA, stB, stC]
  refine Abs.store4 (i := 10) (b := R) (ds := #[.int .u64 (lm px 0 : Nat), .int .u64 (lm px 1 : Nat), .int .u64 (lm px 2 : Nat), .int .u64 (lm px 3 : Nat), .int .u64 (lm ny 0 : Nat), .int .u64 (lm ny 1 : Nat), .int .u64 (lm ny 2 : Nat), .int .u64 (lm ny 3 : Nat), .bool pi]) rfl (by kernel_rfl) (by rfl) (fun w9 => (((((((((w9.setCell ⟨R, 0, none⟩ (.int .u64 (lm px 0 : Nat))).setCell ⟨R, 1, none⟩ (.int .u64 (lm px 1 : Nat))).setCell ⟨R, 2, none⟩ (.int .u64 (lm px 2 : Nat))).setCell ⟨R, 3, none⟩ (.int .u64 (lm px 3 : Nat))).setCell ⟨R, 4, none⟩ (.int .u64 (lm ny 0 : Nat))).setCell ⟨R, 5, none⟩ (.int .u64 (lm ny 1 : Nat))).setCell ⟨R, 6, none⟩ (.int .u64 (lm ny 2 : Nat))).setCell ⟨R, 7, none⟩ (.int .u64 (lm ny 3 : Nat))).setCell ⟨R, 8, none⟩ (.bool pi))) (fun w9 h9 => ⟨?_, ?_, ?_⟩) (fun _ _ h k => Chg.keeps (Or.inl (by simp)) h k) (good_chg [R] W1) (fun hG => ?_)
  · have n0 := cell_of_has h9 0; have n1 := cell_of_has h9 1; have n2 := cell_of_has h9 2; have n3 := cell_of_has h9 3; have n4 := cell_of_has h9 4; have n5 := cell_of_has h9 5; have n6 := cell_of_has h9 6; have n7 := cell_of_has h9 7; have n8 := cell_of_has h9 8
    simp only [glA, glB, glC] at n0 n1 n2 n3 n4 n5 n6 n7 n8
    have nz0 := frozen_of_has h9 0; have nz1 := frozen_of_has h9 1; have nz2 := frozen_of_has h9 2; have nz3 := frozen_of_has h9 3; have nz4 := frozen_of_has h9 4; have nz5 := frozen_of_has h9 5; have nz6 := frozen_of_has h9 6; have nz7 := frozen_of_has h9 7; have nz8 := frozen_of_has h9 8
    clear h9
    go_simp
    try with_reducible rfl
  · exact U9.put (U9.zero h9) px ny pi
  · exact Chg.put9 (Chg.refl _ _) (Or.inl (by simp)) px ny pi
  refine Abs.at_put (d := none) rfl ?_
  simp only [Act.put, stA, stB, stC]
  refine Abs.done (by kernel_rfl) (fun wx hx => NoPanic.normal ?_) _
  obtain ⟨hA, hN⟩ := hx
  have hCF : Chg [] w wx := HC.out.trans_new hA (by simp; have := hP.out; omega)
  have g0 := cell_of_has hN 0; have g1 := cell_of_has hN 1; have g2 := cell_of_has hN 2; have g3 := cell_of_has hN 3; have g4 := cell_of_has hN 4; have g5 := cell_of_has hN 5; have g6 := cell_of_has hN 6; have g7 := cell_of_has hN 7; have g8 := cell_of_has hN 8
  simp only [glA, glB, glC] at g0 g1 g2 g3 g4 g5 g6 g7 g8
  go_wp2_with fail
  exact bodyPost_ret (v := .agg #[.int .u64 (lm px 0 : Nat), .int .u64 (lm px 1 : Nat), .int .u64 (lm px 2 : Nat), .int .u64 (lm px 3 : Nat), .int .u64 (lm ny 0 : Nat), .int .u64 (lm ny 1 : Nat), .int .u64 (lm ny 2 : Nat), .int .u64 (lm ny 3 : Nat), .bool pi]) (by simp [results, Try.results16, go_sem, g0, g1, g2, g3, g4, g5, g6, g7, g8]) rfl ⟨rfl, hCF⟩

end Go.Proofs.Ytplldbmjdnikeaa
