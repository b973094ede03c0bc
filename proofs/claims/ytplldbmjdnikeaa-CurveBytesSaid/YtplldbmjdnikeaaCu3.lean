import Derived.Test.YtplldbmjdnikeaaCu2
import Derived.Test.YtplldbmjdnikeaaCurveD
import Derived.Test.YtplldbmjdnikeaaGr

/- The walk of curve.plane.ladder. Printed by ladder.py. -/
namespace Go.Proofs.Ytplldbmjdnikeaa
set_option linter.unusedVariables false
set_option linter.unusedSimpArgs false
open Go.RowKit

/-- A slice that reads as numbers. -/
def ReadsN (w : World) (A : Option Addr) (ks : List Nat) : Prop := 0 < ks.length → ∃ b off, A = some ⟨b, off, none⟩ ∧ b < w.heap.size ∧ ∀ i, i < ks.length → ∀ c, c < 4 → w.cell? ⟨b, off + i * 4 + c, none⟩ = some (.int .u64 (lm (ks.getD i 0) c : Nat))
theorem ReadsN.chg {S : List Nat} {w w' : World} {A : Option Addr} {ks : List Nat} (h : ReadsN w A ks) (hc : Chg S w w') (hs : ∀ b off, A = some ⟨b, off, none⟩ → b ∉ S) : ReadsN w' A ks := fun hn => by
  obtain ⟨b, off, e, hb, hx⟩ := h hn
  exact ⟨b, off, e, Nat.lt_of_lt_of_le hb hc.size, fun i hi c hl => (World.cell?_of_block (hc.block b hb (hs b off e))).trans (hx i hi c hl)⟩
/-- A slice that reads as points of the plane. -/
def ReadsJ (w : World) (A : Option Addr) (ps : List J) : Prop := 0 < ps.length → ∃ b off, A = some ⟨b, off, none⟩ ∧ b < w.heap.size ∧ ∀ i, i < ps.length → ∀ c, c < 12 → w.cell? ⟨b, off + i * 12 + c, none⟩ = (jv (ps.getD i ⟨0, 0, 0⟩))[c]?
theorem ReadsJ.chg {S : List Nat} {w w' : World} {A : Option Addr} {ps : List J} (h : ReadsJ w A ps) (hc : Chg S w w') (hs : ∀ b off, A = some ⟨b, off, none⟩ → b ∉ S) : ReadsJ w' A ps := fun hn => by
  obtain ⟨b, off, e, hb, hx⟩ := h hn
  exact ⟨b, off, e, Nat.lt_of_lt_of_le hb hc.size, fun i hi c hl => (World.cell?_of_block (hc.block b hb (hs b off e))).trans (hx i hi c hl)⟩

/-- One bit: twice, and each point whose number has it. -/
def jin (ks : List Nat) (ps : List J) (i : Nat) (o : J) : Nat → J
  | 0 => jtw o
  | j + 1 => if ks.getD j 0 / 2 ^ i % 2 = 1 then jpl (jin ks ps i o j) (ps.getD j ⟨0, 0, 0⟩) else jin ks ps i o j
/-- The bits from the highest on. -/
def jlad (ks : List Nat) (ps : List J) : Nat → J
  | 0 => ⟨0, 0, 0⟩
  | m + 1 => jin ks ps (255 - m) (jlad ks ps m) ks.length
/-- Block b holds a point of the plane. -/
def UJ (w : World) (b : Nat) (p : J) : Prop := U12 w b 66 (mu p.x) (mu p.y) (mu p.z)
theorem jv_at (p : J) {c : Nat} (hc : c < 4) : (jv p)[c]? = some (.int .u64 (lm (mu p.x) c : Nat)) ∧ (jv p)[4 + c]? = some (.int .u64 (lm (mu p.y) c : Nat)) ∧ (jv p)[8 + c]? = some (.int .u64 (lm (mu p.z) c : Nat)) := by
  have : c = 0 ∨ c = 1 ∨ c = 2 ∨ c = 3 := by omega
  rcases this with rfl | rfl | rfl | rfl <;> exact ⟨rfl, rfl, rfl⟩

set_option maxRecDepth 100000 in
set_option maxHeartbeats 8000000 in
theorem plane_ladder {l a : Nat} (ks : List Nat) (ps : List J) (Ak Ap : Option Addr) (ck cp : Nat) (hlen : ps.length = ks.length) (hk64 : ks.length ≤ 64) (w : World) (hP : Pl w l a PP vP) (hK : ReadsN w Ak ks) (hJ : ReadsJ w Ap ps) :
    Calls Try.prog 49 #[.pointer (some ⟨l, 0, none⟩), .func (.func 50) #[] #[], .func (.func 33) #[] #[], .slice Ak ks.length ck, .slice Ap ps.length cp] w fun e w' =>
    e = .returned (.agg (jv (jlad ks ps 256))) ∧ Chg [] w w' := by
  have htw := fun p w (hP : Pl w l a PP vP) => plane_twice p w hP
  have hpl := fun p q w (hP : Pl w l a PP vP) => plane_plus p q w hP
  have hbit := fun x i hi w => limb_bit0 x i hi w
  unfold num limbs at hbit
  have HTw := Lib.hid htw; have HPl := Lib.hid hpl; have HBit := Lib.hid hbit; have HLen := Lib.hid hlen
  clear htw hpl hbit
  obtain ⟨Zr, hZr⟩ : ∃ Z, jv (jlad ks ps 256) = Z := ⟨_, rfl⟩
  rw [hZr]
  have HZr := Lib.hid hZr
  clear hZr
  rw [hlen]
  obtain ⟨n, hn⟩ : ∃ n, ks.length = n := ⟨_, rfl⟩
  rw [hn] at hk64 ⊢
  have HN := Lib.hid hn
  clear hn hlen
  obtain ⟨W0, hW0⟩ : ∃ W0, (w.alloc (.cells #[.int .u64 0, .int .u64 0, .int .u64 0, .int .u64 0, .int .u64 0, .int .u64 0, .int .u64 0, .int .u64 0, .int .u64 0, .int .u64 0, .int .u64 0, .int .u64 0] 66)).alloc (.cells #[.int .u64 0, .int .u64 0, .int .u64 0, .int .u64 0, .int .u64 0, .int .u64 0, .int .u64 0, .int .u64 0, .int .u64 0, .int .u64 0, .int .u64 0, .int .u64 0] 66) = W0 := ⟨_, rfl⟩
  have hR : Z12 W0 (w.heap.size) 66 := by rw [← hW0]; exact has_alloc (has_alloc_new _ _)
  have hO : Z12 W0 (w.heap.size + 1) 66 := by rw [← hW0]; exact has_alloc_at (by simp)
  have hC : Chg [] w W0 := by rw [← hW0]; exact ((Chg.refl _ _).alloc _).alloc _
  have hlP : l < w.heap.size := lt_of_has hP.1
  have haP : a < w.heap.size := lt_of_has hP.2
  have hKb : ∀ b off, Ak = some ⟨b, off, none⟩ → 0 < ks.length → b < w.heap.size := fun b off e h0 => by
    obtain ⟨b', off', e', hb, _⟩ := hK h0
    rw [e] at e'; cases e'; exact hb
  have hJb : ∀ b off, Ap = some ⟨b, off, none⟩ → 0 < ps.length → b < w.heap.size := fun b off e h0 => by
    obtain ⟨b', off', e', hb, _⟩ := hJ h0
    rw [e] at e'; cases e'; exact hb
  have HP := Lib.hid (hP.ch hC); have HC := Lib.hid hC; have HR := Lib.hid hR; have HO := Lib.hid hO
  have HK := Lib.hid (hK.chg hC (by simp)); have HJ := Lib.hid (hJ.chg hC (by simp)); have HKb := Lib.hid hKb; have HJb := Lib.hid hJb
  clear hP hC hR hO hK hJ hKb hJb
  go_enter Try.func49, Try.ntmps49
  go_wp2_with fail
  try rw [hW0]
  clear hW0
  obtain ⟨R, hR⟩ : ∃ R, w.heap.size = R := ⟨_, rfl⟩
  rw [hR] at HR HO hlP haP HKb HJb ⊢
  obtain ⟨O, hO⟩ : ∃ O, R + 1 = O := ⟨_, rfl⟩
  rw [hO] at HO ⊢
  have hRO : R < O := by omega
  replace hO := Lib.hid hO
  replace hR := Lib.hid hR
  go_loopg [12] 256 (fun gk i wr => ∃ m : Nat, gk + m = 256 ∧ i = .int .i64 (255 - (m : Int)) ∧ UJ wr O (jlad ks ps m) ∧ Chg [O] W0 wr)
  case atStart =>
    refine ⟨0, rfl, rfl, ?_, Chg.refl _ _⟩
    have h := HO.out.u12
    rw [← mu_zero] at h
    exact h
  case round =>
    obtain ⟨m, hm, rfl, hU, hCr⟩ := hrel
    by_cases hlt : m < 256
    · obtain ⟨i, hi⟩ : ∃ i : Nat, 255 - m = i := ⟨_, rfl⟩
      have hi2 : 255 - (m : Int) = (i : Nat) := by omega
      rw [hi2]
      have hi256 : i < 256 := by omega
      have HM := Lib.hid hm
      have hji : jlad ks ps (m + 1) = jin ks ps i (jlad ks ps m) ks.length := by rw [← hi]; rfl
      have HI := Lib.hid hji
      have HIm := Lib.hid hi
      clear hi2 hm hji hi
      obtain ⟨o, ho⟩ : ∃ o, jlad ks ps m = o := ⟨_, rfl⟩
      rw [ho] at hU HI
      have HOo := Lib.hid ho
      clear ho
      have htw := HTw.out o
      obtain ⟨ox, hox⟩ : ∃ v, mu o.x = v := ⟨_, rfl⟩
      obtain ⟨oy, hoy⟩ : ∃ v, mu o.y = v := ⟨_, rfl⟩
      obtain ⟨oz, hoz⟩ : ∃ v, mu o.z = v := ⟨_, rfl⟩
      have hU' : U12 wr O 66 ox oy oz := by rw [← hox, ← hoy, ← hoz]; exact hU
      unfold jv at htw
      rw [hox, hoy, hoz] at htw
      have HTo := Lib.hid htw
      have HPr := Lib.hid (HP.out.chS hCr (by simp; omega) (by simp; omega))
      obtain ⟨ox0, ox1, ox2, ox3⟩ := four4 fun _ => hU'.cx; obtain ⟨oy0, oy1, oy2, oy3⟩ := four4 fun _ => hU'.cy; obtain ⟨oz0, oz1, oz2, oz3⟩ := four4 fun _ => hU'.cz
      have HU := Lib.hid hU'; have HCr := Lib.hid hCr
      clear htw hox hoy hoz hU hU' hCr
      go_upto_region 5 with fail
      go_wp2_with fail
      refine (HTo.out _ HPr.out).mono ?_
      rintro e w1 ⟨rfl, hC1⟩
      obtain ⟨r, hr⟩ : ∃ r, jtw o = r := ⟨_, rfl⟩
      rw [hr]
      obtain ⟨rx, hrx⟩ : ∃ v, mu r.x = v := ⟨_, rfl⟩
      obtain ⟨ry, hry⟩ : ∃ v, mu r.y = v := ⟨_, rfl⟩
      obtain ⟨rz, hrz⟩ : ∃ v, mu r.z = v := ⟨_, rfl⟩
      rw [hrx, hry, hrz]
      have hU1 := HU.out.chg hC1 nmN
      clear ox0 ox1 ox2 ox3 oy0 oy1 oy2 oy3 oz0 oz1 oz2 oz3
      obtain ⟨ox0, ox1, ox2, ox3⟩ := four4 fun _ => hU1.cx; obtain ⟨oy0, oy1, oy2, oy3⟩ := four4 fun _ => hU1.cy; obtain ⟨oz0, oz1, oz2, oz3⟩ := four4 fun _ => hU1.cz
      have oq0 := hU1.fz 0; have oq1 := hU1.fz 1; have oq2 := hU1.fz 2; have oq3 := hU1.fz 3; have oq4 := hU1.fz 4; have oq5 := hU1.fz 5; have oq6 := hU1.fz 6; have oq7 := hU1.fz 7; have oq8 := hU1.fz 8; have oq9 := hU1.fz 9; have oq10 := hU1.fz 10; have oq11 := hU1.fz 11
      have hll := hU1.lt
      obtain ⟨W1, hW1⟩ : ∃ W1, ((((((((((((w1.setCell ⟨O, 0, none⟩ (.int .u64 (lm rx 0 : Nat))).setCell ⟨O, 1, none⟩ (.int .u64 (lm rx 1 : Nat))).setCell ⟨O, 2, none⟩ (.int .u64 (lm rx 2 : Nat))).setCell ⟨O, 3, none⟩ (.int .u64 (lm rx 3 : Nat))).setCell ⟨O, 4, none⟩ (.int .u64 (lm ry 0 : Nat))).setCell ⟨O, 5, none⟩ (.int .u64 (lm ry 1 : Nat))).setCell ⟨O, 6, none⟩ (.int .u64 (lm ry 2 : Nat))).setCell ⟨O, 7, none⟩ (.int .u64 (lm ry 3 : Nat))).setCell ⟨O, 8, none⟩ (.int .u64 (lm rz 0 : Nat))).setCell ⟨O, 9, none⟩ (.int .u64 (lm rz 1 : Nat))).setCell ⟨O, 10, none⟩ (.int .u64 (lm rz 2 : Nat))).setCell ⟨O, 11, none⟩ (.int .u64 (lm rz 3 : Nat))) = W1 := ⟨_, rfl⟩
      have hU2 : UJ W1 O r := by
        unfold UJ
        rw [hrx, hry, hrz, ← hW1]
        exact hU1.put rx ry rz
      have hC2 : Chg [O] W0 W1 := by
        rw [← hW1]
        exact (HCr.out.trans (hC1.mono (by simp))).put12 (Or.inl (by simp)) rx ry rz
      have HU2 := Lib.hid hU2; have HC2 := Lib.hid hC2; have HRr := Lib.hid hr
      clear hU1 hU2 hC2 hC1 HU HCr HPr HTo hrx hry hrz hr
      go_upto_region 6 with fail
      clear ox0 ox1 ox2 ox3 oy0 oy1 oy2 oy3 oz0 oz1 oz2 oz3 oq0 oq1 oq2 oq3 oq4 oq5 oq6 oq7 oq8 oq9 oq10 oq11 hll
      try rw [hW1]
      clear hW1
      go_wp2_with fail
      go_loopg [25] n (fun gj j wq => ∃ t : Nat, gj + t = n ∧ j = .int .i64 t ∧ UJ wq O (jin ks ps i o t) ∧ Chg [O] W0 wq)
      case atStart => exact ⟨0, by omega, rfl, by rw [show jin ks ps i o 0 = jtw o from rfl, HRr.out]; exact HU2.out, HC2.out⟩
      case round =>
        obtain ⟨t, ht, rfl, hU, hCr⟩ := hrel
        clear HU2 HC2
        by_cases hlt2 : t < n
        · have hks : ReadsN wr Ak ks := HK.out.chg hCr (fun b off e => by have := HKb.out b off e (by rw [HN.out]; omega); simp; omega)
          have hps : ReadsJ wr Ap ps := HJ.out.chg hCr (fun b off e => by have := HJb.out b off e (by rw [HLen.out, HN.out]; omega); simp; omega)
          obtain ⟨bk, offk, rfl, hbk, hxk⟩ := hks (by rw [HN.out]; omega)
          obtain ⟨bp, offp, rfl, hbp, hxp⟩ := hps (by rw [HLen.out, HN.out]; omega)
          have hst : jin ks ps i o (t + 1) = if ks.getD t 0 / 2 ^ i % 2 = 1 then jpl (jin ks ps i o t) (ps.getD t ⟨0, 0, 0⟩) else jin ks ps i o t := rfl
          obtain ⟨x, hx⟩ : ∃ x, ks.getD t 0 = x := ⟨_, rfl⟩
          obtain ⟨q, hq⟩ : ∃ q, ps.getD t ⟨0, 0, 0⟩ = q := ⟨_, rfl⟩
          obtain ⟨c, hc⟩ : ∃ c, jin ks ps i o t = c := ⟨_, rfl⟩
          rw [hx, hq, hc] at hst
          rw [hc] at hU
          have hxk' := hxk t (by rw [HN.out]; omega)
          have hxp' := hxp t (by rw [HLen.out, HN.out]; omega)
          rw [hx] at hxk'
          rw [hq] at hxp'
          have k0 : wr.cell? ⟨bk, offk + t * 4, none⟩ = some (.int .u64 (lm x 0 : Nat)) := hxk' 0 (by omega)
          have k1 : wr.cell? ⟨bk, offk + t * 4 + 1, none⟩ = some (.int .u64 (lm x 1 : Nat)) := hxk' 1 (by omega)
          have k2 : wr.cell? ⟨bk, offk + t * 4 + 2, none⟩ = some (.int .u64 (lm x 2 : Nat)) := hxk' 2 (by omega)
          have k3 : wr.cell? ⟨bk, offk + t * 4 + 3, none⟩ = some (.int .u64 (lm x 3 : Nat)) := hxk' 3 (by omega)
          have HXp := Lib.hid hxp'; have HU := Lib.hid hU; have HCr := Lib.hid hCr; have HSt := Lib.hid hst
          have hbit := fun w => HBit.out x i hi256 w
          obtain ⟨bt, hbt⟩ : ∃ bt, x / 2 ^ i % 2 = bt := ⟨_, rfl⟩
          have hbt1 : bt = 0 ∨ bt = 1 := by omega
          rw [hbt] at hbit HSt
          have HBi := Lib.hid hbit
          have hUl := hU.lt
          clear hks hps hxk hxp hxk' hxp' hx hq hc hU hCr hst hbit hbt
          go_wp2_with fail
          refine (HBi.out _).mono ?_
          rintro e w9 ⟨rfl, hC9⟩
          have hA : Chg [] wr w9 := Chg.trans ((Chg.refl _ _).alloc _) hC9
          have HU9 : Hid (UJ w9 O c) := Lib.hid (U12.chg HU.out hA nmN)
          have HC9 := Lib.hid (HCr.out.trans (hA.mono (by simp)))
          have hxp9 : ∀ k, k < 12 → w9.cell? ⟨bp, offp + t * 12 + k, none⟩ = (jv q)[k]? := fun k hk => by
            have h := HXp.out k hk
            exact (World.cell?_of_block (hA.block bp hbp nmN)).trans h
          clear k0 k1 k2 k3 hC9 HU HCr HXp hUl HBi hbk
          rcases hbt1 with rfl | rfl
          · rw [if_neg (by decide)] at HSt
            clear hxp9 hA
            go_wp2_with fail
            go_roundg (n - (t + 1))
            case measure => omega
            case rel => exact ⟨t + 1, by omega, by go_num, by rw [HSt.out]; exact HU9.out, HC9.out⟩
          · rw [if_pos rfl] at HSt
            have hpl := HPl.out c q
            obtain ⟨cx, hcx⟩ : ∃ v, mu c.x = v := ⟨_, rfl⟩
            obtain ⟨cy, hcy⟩ : ∃ v, mu c.y = v := ⟨_, rfl⟩
            obtain ⟨cz, hcz⟩ : ∃ v, mu c.z = v := ⟨_, rfl⟩
            obtain ⟨qx, hqx⟩ : ∃ v, mu q.x = v := ⟨_, rfl⟩
            obtain ⟨qy, hqy⟩ : ∃ v, mu q.y = v := ⟨_, rfl⟩
            obtain ⟨qz, hqz⟩ : ∃ v, mu q.z = v := ⟨_, rfl⟩
            obtain ⟨s, hs⟩ : ∃ s, jpl c q = s := ⟨_, rfl⟩
            rw [hs] at hpl HSt
            obtain ⟨sx, hsx⟩ : ∃ v, mu s.x = v := ⟨_, rfl⟩
            obtain ⟨sy, hsy⟩ : ∃ v, mu s.y = v := ⟨_, rfl⟩
            obtain ⟨sz, hsz⟩ : ∃ v, mu s.z = v := ⟨_, rfl⟩
            have hjq := fun k (hk : k < 4) => jv_at q hk
            rw [hqx, hqy, hqz] at hjq
            have hU9 : U12 w9 O 66 cx cy cz := by rw [← hcx, ← hcy, ← hcz]; exact HU9.out
            unfold jv at hpl
            rw [hcx, hcy, hcz, hqx, hqy, hqz, hsx, hsy, hsz] at hpl
            have HPq := Lib.hid hpl
            have HPr := Lib.hid (HP.out.chS HC9.out (by simp; omega) (by simp; omega))
            obtain ⟨ox0, ox1, ox2, ox3⟩ := four4 fun _ => hU9.cx; obtain ⟨oy0, oy1, oy2, oy3⟩ := four4 fun _ => hU9.cy; obtain ⟨oz0, oz1, oz2, oz3⟩ := four4 fun _ => hU9.cz
            have oq0 := hU9.fz 0; have oq1 := hU9.fz 1; have oq2 := hU9.fz 2; have oq3 := hU9.fz 3; have oq4 := hU9.fz 4; have oq5 := hU9.fz 5; have oq6 := hU9.fz 6; have oq7 := hU9.fz 7; have oq8 := hU9.fz 8; have oq9 := hU9.fz 9; have oq10 := hU9.fz 10; have oq11 := hU9.fz 11
            have hll9 := hU9.lt
            have sx0 : w9.cell? ⟨bp, offp + t * 12, none⟩ = some (.int .u64 (lm qx 0 : Nat)) := (hxp9 0 (by omega)).trans (hjq 0 (by omega)).1; have sx1 : w9.cell? ⟨bp, offp + t * 12 + 1, none⟩ = some (.int .u64 (lm qx 1 : Nat)) := (hxp9 1 (by omega)).trans (hjq 1 (by omega)).1; have sx2 : w9.cell? ⟨bp, offp + t * 12 + 2, none⟩ = some (.int .u64 (lm qx 2 : Nat)) := (hxp9 2 (by omega)).trans (hjq 2 (by omega)).1; have sx3 : w9.cell? ⟨bp, offp + t * 12 + 3, none⟩ = some (.int .u64 (lm qx 3 : Nat)) := (hxp9 3 (by omega)).trans (hjq 3 (by omega)).1; have sy0 : w9.cell? ⟨bp, offp + t * 12 + 4, none⟩ = some (.int .u64 (lm qy 0 : Nat)) := (hxp9 4 (by omega)).trans (hjq 0 (by omega)).2.1; have sy1 : w9.cell? ⟨bp, offp + t * 12 + 5, none⟩ = some (.int .u64 (lm qy 1 : Nat)) := (hxp9 5 (by omega)).trans (hjq 1 (by omega)).2.1; have sy2 : w9.cell? ⟨bp, offp + t * 12 + 6, none⟩ = some (.int .u64 (lm qy 2 : Nat)) := (hxp9 6 (by omega)).trans (hjq 2 (by omega)).2.1; have sy3 : w9.cell? ⟨bp, offp + t * 12 + 7, none⟩ = some (.int .u64 (lm qy 3 : Nat)) := (hxp9 7 (by omega)).trans (hjq 3 (by omega)).2.1; have sz0 : w9.cell? ⟨bp, offp + t * 12 + 8, none⟩ = some (.int .u64 (lm qz 0 : Nat)) := (hxp9 8 (by omega)).trans (hjq 0 (by omega)).2.2; have sz1 : w9.cell? ⟨bp, offp + t * 12 + 9, none⟩ = some (.int .u64 (lm qz 1 : Nat)) := (hxp9 9 (by omega)).trans (hjq 1 (by omega)).2.2; have sz2 : w9.cell? ⟨bp, offp + t * 12 + 10, none⟩ = some (.int .u64 (lm qz 2 : Nat)) := (hxp9 10 (by omega)).trans (hjq 2 (by omega)).2.2; have sz3 : w9.cell? ⟨bp, offp + t * 12 + 11, none⟩ = some (.int .u64 (lm qz 3 : Nat)) := (hxp9 11 (by omega)).trans (hjq 3 (by omega)).2.2
            have HUs : ∀ w : World, U12 w O 66 cx cy cz → UJ (((((((((((((w.setCell ⟨O, 0, none⟩ (.int .u64 (lm sx 0 : Nat))).setCell ⟨O, 1, none⟩ (.int .u64 (lm sx 1 : Nat))).setCell ⟨O, 2, none⟩ (.int .u64 (lm sx 2 : Nat))).setCell ⟨O, 3, none⟩ (.int .u64 (lm sx 3 : Nat))).setCell ⟨O, 4, none⟩ (.int .u64 (lm sy 0 : Nat))).setCell ⟨O, 5, none⟩ (.int .u64 (lm sy 1 : Nat))).setCell ⟨O, 6, none⟩ (.int .u64 (lm sy 2 : Nat))).setCell ⟨O, 7, none⟩ (.int .u64 (lm sy 3 : Nat))).setCell ⟨O, 8, none⟩ (.int .u64 (lm sz 0 : Nat))).setCell ⟨O, 9, none⟩ (.int .u64 (lm sz 1 : Nat))).setCell ⟨O, 10, none⟩ (.int .u64 (lm sz 2 : Nat))).setCell ⟨O, 11, none⟩ (.int .u64 (lm sz 3 : Nat)))) O s := fun w h => by
              unfold UJ
              rw [hsx, hsy, hsz]
              exact h.put sx sy sz
            have HUS := Lib.hid HUs
            have HU99 := Lib.hid hU9
            clear hpl hcx hcy hcz hqx hqy hqz hs hsx hsy hsz hjq hU9 HU9 hxp9 HUs
            go_upto_region 10 with fail
            go_region_with (go_at_call 33; go_loud (refine (HPq.out _ (HPr.out.ch (by repeat (with_reducible first | exact Chg.refl _ _ | apply Chg.drew | apply Chg.drewN)))).mono ?_; rintro e9 w10 ⟨rfl, hC9⟩; have hC10 : Chg [] w9 w10 := Chg.trans (by repeat (with_reducible first | exact Chg.refl _ _ | apply Chg.drew | apply Chg.drewN)) hC9; have hR9 := HU99.out.chg hC10 nmN; clear ox0 sx0 ox1 sx1 ox2 sx2 ox3 sx3 oy0 sy0 oy1 sy1 oy2 sy2 oy3 sy3 oz0 sz0 oz1 sz1 oz2 sz2 oz3 sz3 oq0 oq1 oq2 oq3 oq4 oq5 oq6 oq7 oq8 oq9 oq10 oq11 hC9; obtain ⟨ox0, ox1, ox2, ox3⟩ := four4 fun _ => hR9.cx; obtain ⟨oy0, oy1, oy2, oy3⟩ := four4 fun _ => hR9.cy; obtain ⟨oz0, oz1, oz2, oz3⟩ := four4 fun _ => hR9.cz; have oq0 := hR9.fz 0; have oq1 := hR9.fz 1; have oq2 := hR9.fz 2; have oq3 := hR9.fz 3; have oq4 := hR9.fz 4; have oq5 := hR9.fz 5; have oq6 := hR9.fz 6; have oq7 := hR9.fz 7; have oq8 := hR9.fz 8; have oq9 := hR9.fz 9; have oq10 := hR9.fz 10; have oq11 := hR9.fz 11; have hll10 := hR9.lt; have HR9 := Lib.hid hR9; have HC10 := Lib.hid hC10; clear hR9 hC10))
            all_goals (
              have hUn := HUS.out w10 HR9.out
              have hCn : Chg [O] W0 (((((((((((((w10.setCell ⟨O, 0, none⟩ (.int .u64 (lm sx 0 : Nat))).setCell ⟨O, 1, none⟩ (.int .u64 (lm sx 1 : Nat))).setCell ⟨O, 2, none⟩ (.int .u64 (lm sx 2 : Nat))).setCell ⟨O, 3, none⟩ (.int .u64 (lm sx 3 : Nat))).setCell ⟨O, 4, none⟩ (.int .u64 (lm sy 0 : Nat))).setCell ⟨O, 5, none⟩ (.int .u64 (lm sy 1 : Nat))).setCell ⟨O, 6, none⟩ (.int .u64 (lm sy 2 : Nat))).setCell ⟨O, 7, none⟩ (.int .u64 (lm sy 3 : Nat))).setCell ⟨O, 8, none⟩ (.int .u64 (lm sz 0 : Nat))).setCell ⟨O, 9, none⟩ (.int .u64 (lm sz 1 : Nat))).setCell ⟨O, 10, none⟩ (.int .u64 (lm sz 2 : Nat))).setCell ⟨O, 11, none⟩ (.int .u64 (lm sz 3 : Nat)))) := (HC9.out.trans (HC10.out.mono (by simp))).put12 (Or.inl (by simp)) sx sy sz
              have HUn := Lib.hid hUn; have HCn := Lib.hid hCn
              clear hUn hCn
              go_wp2_with fail
              go_roundg (n - (t + 1))
              case measure => omega
              case rel => exact ⟨t + 1, by omega, by go_num, by rw [HSt.out]; exact HUn.out, HCn.out⟩)
        · obtain rfl : t = n := by omega
          have HUf := Lib.hid hU; have HCf := Lib.hid hCr
          clear hU hCr
          go_wp2_with fail
          go_roundg (256 - (m + 1))
          case measure => have := HM.out; omega
          case rel =>
            have e1 : (i : Int) - 1 = 255 - ((m + 1 : Nat) : Int) := by have := HIm.out; have := HM.out; omega
            exact ⟨m + 1, by have := HM.out; omega, by first | exact congrArg _ e1 | (rw [e1]), by rw [HI.out, HN.out]; exact HUf.out, HCf.out⟩
    · obtain rfl : m = 256 := by omega
      obtain ⟨s, hs⟩ : ∃ s, jlad ks ps 256 = s := ⟨_, rfl⟩
      rw [hs] at hU
      obtain ⟨sx, hsx⟩ : ∃ v, mu s.x = v := ⟨_, rfl⟩
      obtain ⟨sy, hsy⟩ : ∃ v, mu s.y = v := ⟨_, rfl⟩
      obtain ⟨sz, hsz⟩ : ∃ v, mu s.z = v := ⟨_, rfl⟩
      have hU' : U12 wr O 66 sx sy sz := by rw [← hsx, ← hsy, ← hsz]; exact hU
      have HZ := Lib.hid (show Zr = #[.int .u64 (lm sx 0 : Nat), .int .u64 (lm sx 1 : Nat), .int .u64 (lm sx 2 : Nat), .int .u64 (lm sx 3 : Nat), .int .u64 (lm sy 0 : Nat), .int .u64 (lm sy 1 : Nat), .int .u64 (lm sy 2 : Nat), .int .u64 (lm sy 3 : Nat), .int .u64 (lm sz 0 : Nat), .int .u64 (lm sz 1 : Nat), .int .u64 (lm sz 2 : Nat), .int .u64 (lm sz 3 : Nat)] by rw [← HZr.out, hs]; unfold jv; rw [hsx, hsy, hsz])
      have hRz := HR.out.chg hCr (by simp; omega)
      have hCw : Chg [] w wr := HC.out.trans_new hCr (by simp; have := hR.out; omega)
      obtain ⟨ox0, ox1, ox2, ox3⟩ := four4 fun _ => hU'.cx; obtain ⟨oy0, oy1, oy2, oy3⟩ := four4 fun _ => hU'.cy; obtain ⟨oz0, oz1, oz2, oz3⟩ := four4 fun _ => hU'.cz
      have n0 := cell_of_has hRz 0; have n1 := cell_of_has hRz 1; have n2 := cell_of_has hRz 2; have n3 := cell_of_has hRz 3; have n4 := cell_of_has hRz 4; have n5 := cell_of_has hRz 5; have n6 := cell_of_has hRz 6; have n7 := cell_of_has hRz 7; have n8 := cell_of_has hRz 8; have n9 := cell_of_has hRz 9; have n10 := cell_of_has hRz 10; have n11 := cell_of_has hRz 11
      simp only [glA, glB, glC] at n0 n1 n2 n3 n4 n5 n6 n7 n8 n9 n10 n11
      have nz0 := frozen_of_has hRz 0; have nz1 := frozen_of_has hRz 1; have nz2 := frozen_of_has hRz 2; have nz3 := frozen_of_has hRz 3; have nz4 := frozen_of_has hRz 4; have nz5 := frozen_of_has hRz 5; have nz6 := frozen_of_has hRz 6; have nz7 := frozen_of_has hRz 7; have nz8 := frozen_of_has hRz 8; have nz9 := frozen_of_has hRz 9; have nz10 := frozen_of_has hRz 10; have nz11 := frozen_of_has hRz 11
      have hll := hRz.lt
      have HF := Lib.hid (hRz.u12.put sx sy sz); have HCF := Lib.hid (hCw.put12 (b := R) (Or.inr (by have := hR.out; omega)) sx sy sz)
      clear hs hsx hsy hsz hU hU' hRz hCw hCr
      go_wp2_with fail
      have hF := HF.out; have hCF := HCF.out
      refine (id ?_ : bodyPost _ _ _ _ _ (put12 wr R sx sy sz))
      clear HF HCF
      generalize put12 wr R sx sy sz = W5 at *
      have g0 := cell_of_has hF 0; have g1 := cell_of_has hF 1; have g2 := cell_of_has hF 2; have g3 := cell_of_has hF 3; have g4 := cell_of_has hF 4; have g5 := cell_of_has hF 5; have g6 := cell_of_has hF 6; have g7 := cell_of_has hF 7; have g8 := cell_of_has hF 8; have g9 := cell_of_has hF 9; have g10 := cell_of_has hF 10; have g11 := cell_of_has hF 11
      simp only [glA, glB, glC] at g0 g1 g2 g3 g4 g5 g6 g7 g8 g9 g10 g11
      exact bodyPost_ret (v := .agg #[.int .u64 (lm sx 0 : Nat), .int .u64 (lm sx 1 : Nat), .int .u64 (lm sx 2 : Nat), .int .u64 (lm sx 3 : Nat), .int .u64 (lm sy 0 : Nat), .int .u64 (lm sy 1 : Nat), .int .u64 (lm sy 2 : Nat), .int .u64 (lm sy 3 : Nat), .int .u64 (lm sz 0 : Nat), .int .u64 (lm sz 1 : Nat), .int .u64 (lm sz 2 : Nat), .int .u64 (lm sz 3 : Nat)]) (by simp [results, Try.results49, go_sem, g0, g1, g2, g3, g4, g5, g6, g7, g8, g9, g10, g11]) rfl ⟨by rw [HZ.out], hCF⟩

end Go.Proofs.Ytplldbmjdnikeaa

/- The walks of curve.cubic, Check. Printed by checkp.py. -/
namespace Go.Proofs.Ytplldbmjdnikeaa
set_option linter.unusedVariables false
set_option linter.unusedSimpArgs false
open Go.RowKit

theorem lm_seven (k : Nat) : lm 7 (k + 1) = 0 := by
  unfold lm
  rw [Nat.div_eq_of_lt, Nat.zero_mod]
  have : B6 ^ 1 ≤ B6 ^ (k + 1) := Nat.pow_le_pow_right (by decide) (by omega)
  have h2 : 7 < B6 ^ 1 := by decide
  omega
theorem l4_seven : (#[.int .u64 (lm 7 0 : Nat), .int .u64 (lm 7 1 : Nat), .int .u64 (lm 7 2 : Nat), .int .u64 (lm 7 3 : Nat)] : Array Value) = #[.int .u64 7, .int .u64 0, .int .u64 0, .int .u64 0] := by
  rw [lm_seven, lm_seven, lm_seven, show lm 7 0 = 7 from rfl]
  rfl
/-- The curve's right side. -/
def cub (x : Fin PP) : Fin PP := x * x * x + 7

set_option maxRecDepth 100000 in
set_option maxHeartbeats 8000000 in
theorem curve_cubic {f a : Nat} {x : Fin PP} {xv t : Nat} (hx : x.val = xv) (ht : (cub x).val = t) (w : World) (hF : Fd w f a PP vP rootP) :
    Calls Try.prog 45 #[.pointer (some ⟨f, 0, none⟩), .agg #[.int .u64 (lm xv 0 : Nat), .int .u64 (lm xv 1 : Nat), .int .u64 (lm xv 2 : Nat), .int .u64 (lm xv 3 : Nat)]] w fun e w' => e = .returned (.agg #[.int .u64 (lm t 0 : Nat), .int .u64 (lm t 1 : Nat), .int .u64 (lm t 2 : Nat), .int .u64 (lm t 3 : Nat)]) ∧ Chg [] w w' := by
  obtain ⟨e2, he2⟩ : ∃ e, x * x = e := ⟨_, rfl⟩
  obtain ⟨v2, hv2⟩ : ∃ v, e2.val = v := ⟨_, rfl⟩
  obtain ⟨e3, he3⟩ : ∃ e, e2 * x = e := ⟨_, rfl⟩
  obtain ⟨v3, hv3⟩ : ∃ v, e3.val = v := ⟨_, rfl⟩
  have h7 : (7 : Fin PP).val = 7 := by decide +kernel
  have C2 := Lib.hid (fun w hF => fp_mul (f := f) (a := a) (t := v2) hx hx (by rw [he2]; exact hv2) w hF)
  have C3 := Lib.hid (fun w hF => fp_mul (f := f) (a := a) (t := v3) hv2 hx (by rw [he3]; exact hv3) w hF)
  have hc := fun w hF => fp_add (f := f) (a := a) (t := t) (x := e3) (y := 7) hv3 h7 (by rw [← he3, ← he2]; exact ht) w hF
  rw [l4_seven] at hc
  have C4 := Lib.hid hc
  clear hc h7 he2 he3 hv2 hv3 hx ht
  obtain ⟨W0, hW0⟩ : ∃ W0, (w.alloc (.cells #[.int .u64 (lm xv 0 : Nat), .int .u64 (lm xv 1 : Nat), .int .u64 (lm xv 2 : Nat), .int .u64 (lm xv 3 : Nat)] 24)).alloc (.cells #[.int .u64 0, .int .u64 0, .int .u64 0, .int .u64 0] 24) = W0 := ⟨_, rfl⟩
  have uX : U4 W0 w.heap.size 24 (lm xv) := by rw [← hW0]; exact has_alloc (has_alloc_new _ _)
  have uR : U4 W0 (w.heap.size + 1) 24 (fun _ => 0) := by rw [← hW0]; exact has_alloc_at (by simp)
  have hC0 : Chg [] w W0 := by rw [← hW0]; exact ((Chg.refl _ _).alloc _).alloc _
  have HX := Lib.hid uX; have HR := Lib.hid uR; have HC := Lib.hid hC0; have HF := Lib.hid (hF.ch hC0)
  clear uX uR hC0 hF
  go_enter Try.func45, Try.ntmps45
  go_upto_region 1 with fail
  try rw [hW0]
  clear hW0
  obtain ⟨P, hP⟩ : ∃ P, w.heap.size = P := ⟨_, rfl⟩
  rw [hP] at HX HR ⊢
  replace hP := Lib.hid hP
  obtain ⟨x0, x1, x2, x3⟩ := four4 fun _ => (HX.out).cell
  go_wp2_with fail
  refine (C2.out _ HF.out).mono ?_
  rintro e w1 ⟨rfl, hC1⟩
  clear x0 x1 x2 x3
  replace HX := Lib.hid (HX.out.chg hC1 nmN)
  replace HR := Lib.hid (HR.out.chg hC1 nmN)
  replace HC := Lib.hid (HC.out.trans hC1)
  replace HF := Lib.hid (HF.out.ch hC1)
  clear hC1
  obtain ⟨W1, hW1⟩ : ∃ W1, w1.alloc (.cells #[.int .u64 (lm v2 0 : Nat), .int .u64 (lm v2 1 : Nat), .int .u64 (lm v2 2 : Nat), .int .u64 (lm v2 3 : Nat)] 24) = W1 := ⟨_, rfl⟩
  have hA : Chg [] w1 W1 := by rw [← hW1]; exact (Chg.refl _ _).alloc _
  have hN : U4 W1 w1.heap.size 24 (lm v2) := by rw [← hW1]; exact has_alloc_new _ _
  obtain ⟨b_y, hb⟩ : ∃ b, w1.heap.size = b := ⟨_, rfl⟩
  rw [hb] at hN
  replace HX := Lib.hid (HX.out.chg hA nmN)
  replace HR := Lib.hid (HR.out.chg hA nmN)
  replace HC := Lib.hid (HC.out.trans hA)
  replace HF := Lib.hid (HF.out.ch hA)
  have H_y := Lib.hid hN
  go_upto_region 2 with fail
  try rw [hW1]
  try rw [hb]
  clear hW1 hb hA hN
  obtain ⟨y0, y1, y2, y3⟩ := four4 fun _ => (H_y.out).cell
  obtain ⟨x0, x1, x2, x3⟩ := four4 fun _ => (HX.out).cell
  go_wp2_with fail
  refine (C3.out _ HF.out).mono ?_
  rintro e w1 ⟨rfl, hC1⟩
  clear y0 y1 y2 y3 x0 x1 x2 x3
  replace HX := Lib.hid (HX.out.chg hC1 nmN)
  replace HR := Lib.hid (HR.out.chg hC1 nmN)
  replace HC := Lib.hid (HC.out.trans hC1)
  replace HF := Lib.hid (HF.out.ch hC1)
  replace H_y := Lib.hid (H_y.out.chg hC1 nmN)
  clear hC1
  obtain ⟨W1, hW1⟩ : ∃ W1, w1.alloc (.cells #[.int .u64 (lm v3 0 : Nat), .int .u64 (lm v3 1 : Nat), .int .u64 (lm v3 2 : Nat), .int .u64 (lm v3 3 : Nat)] 24) = W1 := ⟨_, rfl⟩
  have hA : Chg [] w1 W1 := by rw [← hW1]; exact (Chg.refl _ _).alloc _
  have hN : U4 W1 w1.heap.size 24 (lm v3) := by rw [← hW1]; exact has_alloc_new _ _
  obtain ⟨b_z, hb⟩ : ∃ b, w1.heap.size = b := ⟨_, rfl⟩
  rw [hb] at hN
  replace HX := Lib.hid (HX.out.chg hA nmN)
  replace HR := Lib.hid (HR.out.chg hA nmN)
  replace HC := Lib.hid (HC.out.trans hA)
  replace HF := Lib.hid (HF.out.ch hA)
  replace H_y := Lib.hid (H_y.out.chg hA nmN)
  have H_z := Lib.hid hN
  go_upto_region 3 with fail
  try rw [hW1]
  try rw [hb]
  clear hW1 hb hA hN
  obtain ⟨z0, z1, z2, z3⟩ := four4 fun _ => (H_z.out).cell
  go_wp2_with fail
  refine (C4.out _ HF.out).mono ?_
  rintro e w1 ⟨rfl, hC1⟩
  clear z0 z1 z2 z3
  replace HX := Lib.hid (HX.out.chg hC1 nmN)
  replace HR := Lib.hid (HR.out.chg hC1 nmN)
  replace HC := Lib.hid (HC.out.trans hC1)
  replace HF := Lib.hid (HF.out.ch hC1)
  replace H_y := Lib.hid (H_y.out.chg hC1 nmN)
  replace H_z := Lib.hid (H_z.out.chg hC1 nmN)
  clear hC1
  obtain ⟨W1, hW1⟩ : ∃ W1, w1.alloc (.cells #[.int .u64 (lm t 0 : Nat), .int .u64 (lm t 1 : Nat), .int .u64 (lm t 2 : Nat), .int .u64 (lm t 3 : Nat)] 24) = W1 := ⟨_, rfl⟩
  have hA : Chg [] w1 W1 := by rw [← hW1]; exact (Chg.refl _ _).alloc _
  have hN : U4 W1 w1.heap.size 24 (lm t) := by rw [← hW1]; exact has_alloc_new _ _
  obtain ⟨b_r, hb⟩ : ∃ b, w1.heap.size = b := ⟨_, rfl⟩
  rw [hb] at hN
  replace HX := Lib.hid (HX.out.chg hA nmN)
  replace HR := Lib.hid (HR.out.chg hA nmN)
  replace HC := Lib.hid (HC.out.trans hA)
  replace HF := Lib.hid (HF.out.ch hA)
  replace H_y := Lib.hid (H_y.out.chg hA nmN)
  replace H_z := Lib.hid (H_z.out.chg hA nmN)
  have H_r := Lib.hid hN
  go_upto_region 4 with fail
  try rw [hW1]
  try rw [hb]
  clear hW1 hb hA hN
  obtain ⟨r0, r1, r2, r3⟩ := four4 fun _ => (H_r.out).cell
  have hR9 := HR.out
  have q0 := hR9.cell (k := 0) (by omega); have qz0 := hR9.fz 0; have q1 := hR9.cell (k := 1) (by omega); have qz1 := hR9.fz 1; have q2 := hR9.cell (k := 2) (by omega); have qz2 := hR9.fz 2; have q3 := hR9.cell (k := 3) (by omega); have qz3 := hR9.fz 3
  have hll := hR9.lt
  have HF9 := Lib.hid (hR9.put (lm t)); have HCF := Lib.hid (HC.out.put4 (b := P + 1) (Or.inr (by first | omega | (have := hP.out; omega))) (lm t))
  clear hR9
  go_wp2_with fail
  have hF := HF9.out; have hCF := HCF.out
  refine (id ?_ : bodyPost _ _ _ _ _ (put4 W1 (P + 1) (lm t)))
  clear HF9 HCF
  generalize put4 W1 (P + 1) (lm t) = W5 at *
  obtain ⟨g0, g1, g2, g3⟩ := four4 fun _ => hF.cell
  exact bodyPost_ret (v := .agg #[.int .u64 (lm t 0 : Nat), .int .u64 (lm t 1 : Nat), .int .u64 (lm t 2 : Nat), .int .u64 (lm t 3 : Nat)]) (by simp [results, Try.results45, go_sem, g0, g1, g2, g3]) rfl ⟨rfl, hCF⟩

/-- A point of the curve, as it is told. -/
def ofP : Pc → Pd
  | .inf => ⟨0, 0, true⟩
  | .aff x y => ⟨x.val, y.val, false⟩

set_option maxRecDepth 100000 in
set_option maxHeartbeats 8000000 in
theorem check_inf   (w : World) :
    Calls Try.prog 15 #[.agg #[.int .u64 (lm 0 0 : Nat), .int .u64 (lm 0 1 : Nat), .int .u64 (lm 0 2 : Nat), .int .u64 (lm 0 3 : Nat), .int .u64 (lm 0 0 : Nat), .int .u64 (lm 0 1 : Nat), .int .u64 (lm 0 2 : Nat), .int .u64 (lm 0 3 : Nat), .bool true]] w fun e w' => e = .returned (.int .i64 0) ∧ Chg [] w w' := by
  have HBase := Lib.hid field_base
  have q := fun w => num_eq0 (a := 0) (by decide) w
  rw [show decide ((0 : Nat) = 0) = true by decide] at q
  obtain ⟨W0, hW0⟩ : ∃ W0, w.alloc (.cells #[.int .u64 (lm 0 0 : Nat), .int .u64 (lm 0 1 : Nat), .int .u64 (lm 0 2 : Nat), .int .u64 (lm 0 3 : Nat), .int .u64 (lm 0 0 : Nat), .int .u64 (lm 0 1 : Nat), .int .u64 (lm 0 2 : Nat), .int .u64 (lm 0 3 : Nat), .bool true] 26) = W0 := ⟨_, rfl⟩
  have hB : U9 W0 w.heap.size 0 0 true := by rw [← hW0]; exact has_alloc_new _ _
  have hC : Chg [] w W0 := by rw [← hW0]; exact (Chg.refl _ _).alloc _
  have HB := Lib.hid hB; have HC := Lib.hid hC
  clear hB hC
  go_enter Try.func15, Try.ntmps15
  go_wp2_with fail
  try rw [hW0]
  clear hW0
  obtain ⟨P, hP⟩ : ∃ P, w.heap.size = P := ⟨_, rfl⟩
  rw [hP] at HB ⊢
  replace hP := Lib.hid hP
  refine (HBase.out _).mono ?_
  rintro e w1 ⟨f, a, rfl, hC1, hF1⟩
  replace HB := Lib.hid (HB.out.chg hC1 nmN)
  replace HC := Lib.hid (HC.out.trans hC1)
  have HF := Lib.hid hF1
  clear hC1 hF1
  obtain ⟨x0, x1, x2, x3⟩ := four4 fun _ => (HB.out).cx
  obtain ⟨y0, y1, y2, y3⟩ := four4 fun _ => (HB.out).cy
  have ci := HB.out.ci
  go_wp2_with fail
  go_ret
  exact ⟨rfl, HC.out⟩

set_option maxRecDepth 100000 in
set_option maxHeartbeats 8000000 in
theorem check_inf_x {x y : Nat} (hx4 : x < B6 ^ 4) (hx : x ≠ 0) (w : World) :
    Calls Try.prog 15 #[.agg #[.int .u64 (lm x 0 : Nat), .int .u64 (lm x 1 : Nat), .int .u64 (lm x 2 : Nat), .int .u64 (lm x 3 : Nat), .int .u64 (lm y 0 : Nat), .int .u64 (lm y 1 : Nat), .int .u64 (lm y 2 : Nat), .int .u64 (lm y 3 : Nat), .bool true]] w fun e w' => e = .returned (.int .i64 30) ∧ Chg [] w w' := by
  have HBase := Lib.hid field_base
  have q := fun w => num_eq0 hx4 w
  rw [show decide (x = 0) = false by simpa using hx] at q
  clear hx hx4
  obtain ⟨W0, hW0⟩ : ∃ W0, w.alloc (.cells #[.int .u64 (lm x 0 : Nat), .int .u64 (lm x 1 : Nat), .int .u64 (lm x 2 : Nat), .int .u64 (lm x 3 : Nat), .int .u64 (lm y 0 : Nat), .int .u64 (lm y 1 : Nat), .int .u64 (lm y 2 : Nat), .int .u64 (lm y 3 : Nat), .bool true] 26) = W0 := ⟨_, rfl⟩
  have hB : U9 W0 w.heap.size x y true := by rw [← hW0]; exact has_alloc_new _ _
  have hC : Chg [] w W0 := by rw [← hW0]; exact (Chg.refl _ _).alloc _
  have HB := Lib.hid hB; have HC := Lib.hid hC
  clear hB hC
  go_enter Try.func15, Try.ntmps15
  go_wp2_with fail
  try rw [hW0]
  clear hW0
  obtain ⟨P, hP⟩ : ∃ P, w.heap.size = P := ⟨_, rfl⟩
  rw [hP] at HB ⊢
  replace hP := Lib.hid hP
  refine (HBase.out _).mono ?_
  rintro e w1 ⟨f, a, rfl, hC1, hF1⟩
  replace HB := Lib.hid (HB.out.chg hC1 nmN)
  replace HC := Lib.hid (HC.out.trans hC1)
  have HF := Lib.hid hF1
  clear hC1 hF1
  obtain ⟨x0, x1, x2, x3⟩ := four4 fun _ => (HB.out).cx
  obtain ⟨y0, y1, y2, y3⟩ := four4 fun _ => (HB.out).cy
  have ci := HB.out.ci
  go_wp2_with fail
  go_ret
  exact ⟨rfl, HC.out⟩

set_option maxRecDepth 100000 in
set_option maxHeartbeats 8000000 in
theorem check_inf_y {x y : Nat} (hx4 : x < B6 ^ 4) (hy4 : y < B6 ^ 4) (hx : x = 0) (hy : y ≠ 0) (w : World) :
    Calls Try.prog 15 #[.agg #[.int .u64 (lm x 0 : Nat), .int .u64 (lm x 1 : Nat), .int .u64 (lm x 2 : Nat), .int .u64 (lm x 3 : Nat), .int .u64 (lm y 0 : Nat), .int .u64 (lm y 1 : Nat), .int .u64 (lm y 2 : Nat), .int .u64 (lm y 3 : Nat), .bool true]] w fun e w' => e = .returned (.int .i64 30) ∧ Chg [] w w' := by
  have HBase := Lib.hid field_base
  have q := fun w => num_eq0 hx4 w
  rw [show decide (x = 0) = true by simpa using hx] at q
  have q2 := fun w => num_eq0 hy4 w
  rw [show decide (y = 0) = false by simpa using hy] at q2
  clear hx hx4 hy hy4
  obtain ⟨W0, hW0⟩ : ∃ W0, w.alloc (.cells #[.int .u64 (lm x 0 : Nat), .int .u64 (lm x 1 : Nat), .int .u64 (lm x 2 : Nat), .int .u64 (lm x 3 : Nat), .int .u64 (lm y 0 : Nat), .int .u64 (lm y 1 : Nat), .int .u64 (lm y 2 : Nat), .int .u64 (lm y 3 : Nat), .bool true] 26) = W0 := ⟨_, rfl⟩
  have hB : U9 W0 w.heap.size x y true := by rw [← hW0]; exact has_alloc_new _ _
  have hC : Chg [] w W0 := by rw [← hW0]; exact (Chg.refl _ _).alloc _
  have HB := Lib.hid hB; have HC := Lib.hid hC
  clear hB hC
  go_enter Try.func15, Try.ntmps15
  go_wp2_with fail
  try rw [hW0]
  clear hW0
  obtain ⟨P, hP⟩ : ∃ P, w.heap.size = P := ⟨_, rfl⟩
  rw [hP] at HB ⊢
  replace hP := Lib.hid hP
  refine (HBase.out _).mono ?_
  rintro e w1 ⟨f, a, rfl, hC1, hF1⟩
  replace HB := Lib.hid (HB.out.chg hC1 nmN)
  replace HC := Lib.hid (HC.out.trans hC1)
  have HF := Lib.hid hF1
  clear hC1 hF1
  obtain ⟨x0, x1, x2, x3⟩ := four4 fun _ => (HB.out).cx
  obtain ⟨y0, y1, y2, y3⟩ := four4 fun _ => (HB.out).cy
  have ci := HB.out.ci
  go_wp2_with fail
  go_ret
  exact ⟨rfl, HC.out⟩

set_option maxRecDepth 100000 in
set_option maxHeartbeats 8000000 in
theorem check_x {x y : Nat} (hx4 : x < B6 ^ 4) (hx : ¬ x < PP) (w : World) :
    Calls Try.prog 15 #[.agg #[.int .u64 (lm x 0 : Nat), .int .u64 (lm x 1 : Nat), .int .u64 (lm x 2 : Nat), .int .u64 (lm x 3 : Nat), .int .u64 (lm y 0 : Nat), .int .u64 (lm y 1 : Nat), .int .u64 (lm y 2 : Nat), .int .u64 (lm y 3 : Nat), .bool false]] w fun e w' => e = .returned (.int .i64 30) ∧ Chg [] w w' := by
  have HBase := Lib.hid field_base
  have hcx := fun f w hF => field_check (m := PP) (f := f) (x := x) way_P.lt hx4 w hF
  rw [show chkN x PP = 20 from if_neg hx] at hcx
  unfold num limbs at hcx
  have Cx := Lib.hid hcx
  clear hcx
  clear hx hx4
  obtain ⟨W0, hW0⟩ : ∃ W0, w.alloc (.cells #[.int .u64 (lm x 0 : Nat), .int .u64 (lm x 1 : Nat), .int .u64 (lm x 2 : Nat), .int .u64 (lm x 3 : Nat), .int .u64 (lm y 0 : Nat), .int .u64 (lm y 1 : Nat), .int .u64 (lm y 2 : Nat), .int .u64 (lm y 3 : Nat), .bool false] 26) = W0 := ⟨_, rfl⟩
  have hB : U9 W0 w.heap.size x y false := by rw [← hW0]; exact has_alloc_new _ _
  have hC : Chg [] w W0 := by rw [← hW0]; exact (Chg.refl _ _).alloc _
  have HB := Lib.hid hB; have HC := Lib.hid hC
  clear hB hC
  go_enter Try.func15, Try.ntmps15
  go_wp2_with fail
  try rw [hW0]
  clear hW0
  obtain ⟨P, hP⟩ : ∃ P, w.heap.size = P := ⟨_, rfl⟩
  rw [hP] at HB ⊢
  replace hP := Lib.hid hP
  refine (HBase.out _).mono ?_
  rintro e w1 ⟨f, a, rfl, hC1, hF1⟩
  replace HB := Lib.hid (HB.out.chg hC1 nmN)
  replace HC := Lib.hid (HC.out.trans hC1)
  have HF := Lib.hid hF1
  clear hC1 hF1
  obtain ⟨x0, x1, x2, x3⟩ := four4 fun _ => (HB.out).cx
  obtain ⟨y0, y1, y2, y3⟩ := four4 fun _ => (HB.out).cy
  have ci := HB.out.ci
  go_wp2_with fail
  refine (Cx.out _ _ HF.out.m4).mono ?_
  rintro e w1 ⟨rfl, hC1⟩
  clear x0 x1 x2 x3 y0 y1 y2 y3 ci
  replace HB := Lib.hid (HB.out.chg hC1 nmN)
  replace HC := Lib.hid (HC.out.trans hC1)
  replace HF := Lib.hid (HF.out.ch hC1)
  clear hC1
  obtain ⟨x0, x1, x2, x3⟩ := four4 fun _ => (HB.out).cx
  obtain ⟨y0, y1, y2, y3⟩ := four4 fun _ => (HB.out).cy
  have ci := HB.out.ci
  go_wp2_with fail
  go_ret
  exact ⟨rfl, HC.out⟩

set_option maxRecDepth 100000 in
set_option maxHeartbeats 8000000 in
theorem check_y {x y : Nat} (hx4 : x < B6 ^ 4) (hy4 : y < B6 ^ 4) (hx : x < PP) (hy : ¬ y < PP) (w : World) :
    Calls Try.prog 15 #[.agg #[.int .u64 (lm x 0 : Nat), .int .u64 (lm x 1 : Nat), .int .u64 (lm x 2 : Nat), .int .u64 (lm x 3 : Nat), .int .u64 (lm y 0 : Nat), .int .u64 (lm y 1 : Nat), .int .u64 (lm y 2 : Nat), .int .u64 (lm y 3 : Nat), .bool false]] w fun e w' => e = .returned (.int .i64 30) ∧ Chg [] w w' := by
  have HBase := Lib.hid field_base
  have hcx := fun f w hF => field_check (m := PP) (f := f) (x := x) way_P.lt hx4 w hF
  rw [show chkN x PP = 0 from if_pos hx] at hcx
  unfold num limbs at hcx
  have Cx := Lib.hid hcx
  clear hcx
  have hcy := fun f w hF => field_check (m := PP) (f := f) (x := y) way_P.lt hy4 w hF
  rw [show chkN y PP = 20 from if_neg hy] at hcy
  unfold num limbs at hcy
  have Cy := Lib.hid hcy
  clear hcy
  clear hx hx4 hy hy4
  obtain ⟨W0, hW0⟩ : ∃ W0, w.alloc (.cells #[.int .u64 (lm x 0 : Nat), .int .u64 (lm x 1 : Nat), .int .u64 (lm x 2 : Nat), .int .u64 (lm x 3 : Nat), .int .u64 (lm y 0 : Nat), .int .u64 (lm y 1 : Nat), .int .u64 (lm y 2 : Nat), .int .u64 (lm y 3 : Nat), .bool false] 26) = W0 := ⟨_, rfl⟩
  have hB : U9 W0 w.heap.size x y false := by rw [← hW0]; exact has_alloc_new _ _
  have hC : Chg [] w W0 := by rw [← hW0]; exact (Chg.refl _ _).alloc _
  have HB := Lib.hid hB; have HC := Lib.hid hC
  clear hB hC
  go_enter Try.func15, Try.ntmps15
  go_wp2_with fail
  try rw [hW0]
  clear hW0
  obtain ⟨P, hP⟩ : ∃ P, w.heap.size = P := ⟨_, rfl⟩
  rw [hP] at HB ⊢
  replace hP := Lib.hid hP
  refine (HBase.out _).mono ?_
  rintro e w1 ⟨f, a, rfl, hC1, hF1⟩
  replace HB := Lib.hid (HB.out.chg hC1 nmN)
  replace HC := Lib.hid (HC.out.trans hC1)
  have HF := Lib.hid hF1
  clear hC1 hF1
  obtain ⟨x0, x1, x2, x3⟩ := four4 fun _ => (HB.out).cx
  obtain ⟨y0, y1, y2, y3⟩ := four4 fun _ => (HB.out).cy
  have ci := HB.out.ci
  go_wp2_with fail
  refine (Cx.out _ _ HF.out.m4).mono ?_
  rintro e w1 ⟨rfl, hC1⟩
  clear x0 x1 x2 x3 y0 y1 y2 y3 ci
  replace HB := Lib.hid (HB.out.chg hC1 nmN)
  replace HC := Lib.hid (HC.out.trans hC1)
  replace HF := Lib.hid (HF.out.ch hC1)
  clear hC1
  obtain ⟨x0, x1, x2, x3⟩ := four4 fun _ => (HB.out).cx
  obtain ⟨y0, y1, y2, y3⟩ := four4 fun _ => (HB.out).cy
  have ci := HB.out.ci
  go_wp2_with fail
  refine (Cy.out _ _ HF.out.m4).mono ?_
  rintro e w1 ⟨rfl, hC1⟩
  clear x0 x1 x2 x3 y0 y1 y2 y3 ci
  replace HB := Lib.hid (HB.out.chg hC1 nmN)
  replace HC := Lib.hid (HC.out.trans hC1)
  replace HF := Lib.hid (HF.out.ch hC1)
  clear hC1
  obtain ⟨x0, x1, x2, x3⟩ := four4 fun _ => (HB.out).cx
  obtain ⟨y0, y1, y2, y3⟩ := four4 fun _ => (HB.out).cy
  have ci := HB.out.ci
  go_wp2_with fail
  go_ret
  exact ⟨rfl, HC.out⟩

set_option maxRecDepth 100000 in
set_option maxHeartbeats 8000000 in
theorem check_off {x y : Fin PP} (hne : y * y ≠ cub x) (w : World) :
    Calls Try.prog 15 #[.agg #[.int .u64 (lm x.val 0 : Nat), .int .u64 (lm x.val 1 : Nat), .int .u64 (lm x.val 2 : Nat), .int .u64 (lm x.val 3 : Nat), .int .u64 (lm y.val 0 : Nat), .int .u64 (lm y.val 1 : Nat), .int .u64 (lm y.val 2 : Nat), .int .u64 (lm y.val 3 : Nat), .bool false]] w fun e w' => e = .returned (.int .i64 30) ∧ Chg [] w w' := by
  have HBase := Lib.hid field_base
  obtain ⟨xv, hxv⟩ : ∃ v, x.val = v := ⟨_, rfl⟩
  obtain ⟨yv, hyv⟩ : ∃ v, y.val = v := ⟨_, rfl⟩
  rw [hxv, hyv]
  have hx4 : xv < B6 ^ 4 := by rw [← hxv]; exact val_lt4 x
  have hy4 : yv < B6 ^ 4 := by rw [← hyv]; exact val_lt4 y
  have hx : xv < PP := by rw [← hxv]; exact x.isLt
  have hy : yv < PP := by rw [← hyv]; exact y.isLt
  have hcxv := fun f w hF => field_check (m := PP) (f := f) (x := xv) way_P.lt hx4 w hF
  rw [show chkN xv PP = 0 from if_pos hx] at hcxv
  unfold num limbs at hcxv
  have Cxv := Lib.hid hcxv
  clear hcxv
  have hcyv := fun f w hF => field_check (m := PP) (f := f) (x := yv) way_P.lt hy4 w hF
  rw [show chkN yv PP = 0 from if_pos hy] at hcyv
  unfold num limbs at hcyv
  have Cyv := Lib.hid hcyv
  clear hcyv
  have Cx := Cxv; have Cy := Cyv
  clear Cxv Cyv
  obtain ⟨s, hs⟩ : ∃ v, (y * y).val = v := ⟨_, rfl⟩
  obtain ⟨t, ht⟩ : ∃ v, (cub x).val = v := ⟨_, rfl⟩
  have C2 := Lib.hid (fun f a w hF => fp_mul (f := f) (a := a) hyv hyv hs w hF)
  have CC := Lib.hid (fun f a w hF => curve_cubic (f := f) (a := a) hxv ht w hF)
  have hs4 : s < B6 ^ 4 := by rw [← hs]; exact val_lt4 _
  have ht4 : t < B6 ^ 4 := by rw [← ht]; exact val_lt4 _
  have q := fun w => num_eq hs4 ht4 w
  rw [show decide (s = t) = false by simp only [decide_eq_false_iff_not]; exact fun h => hne (Fin.ext (by rw [hs, ht, h]))] at q
  clear hne hxv hyv hx4 hy4 hx hy hs ht hs4 ht4
  obtain ⟨W0, hW0⟩ : ∃ W0, w.alloc (.cells #[.int .u64 (lm xv 0 : Nat), .int .u64 (lm xv 1 : Nat), .int .u64 (lm xv 2 : Nat), .int .u64 (lm xv 3 : Nat), .int .u64 (lm yv 0 : Nat), .int .u64 (lm yv 1 : Nat), .int .u64 (lm yv 2 : Nat), .int .u64 (lm yv 3 : Nat), .bool false] 26) = W0 := ⟨_, rfl⟩
  have hB : U9 W0 w.heap.size xv yv false := by rw [← hW0]; exact has_alloc_new _ _
  have hC : Chg [] w W0 := by rw [← hW0]; exact (Chg.refl _ _).alloc _
  have HB := Lib.hid hB; have HC := Lib.hid hC
  clear hB hC
  go_enter Try.func15, Try.ntmps15
  go_wp2_with fail
  try rw [hW0]
  clear hW0
  obtain ⟨P, hP⟩ : ∃ P, w.heap.size = P := ⟨_, rfl⟩
  rw [hP] at HB ⊢
  replace hP := Lib.hid hP
  refine (HBase.out _).mono ?_
  rintro e w1 ⟨f, a, rfl, hC1, hF1⟩
  replace HB := Lib.hid (HB.out.chg hC1 nmN)
  replace HC := Lib.hid (HC.out.trans hC1)
  have HF := Lib.hid hF1
  clear hC1 hF1
  obtain ⟨x0, x1, x2, x3⟩ := four4 fun _ => (HB.out).cx
  obtain ⟨y0, y1, y2, y3⟩ := four4 fun _ => (HB.out).cy
  have ci := HB.out.ci
  go_wp2_with fail
  refine (Cx.out _ _ HF.out.m4).mono ?_
  rintro e w1 ⟨rfl, hC1⟩
  clear x0 x1 x2 x3 y0 y1 y2 y3 ci
  replace HB := Lib.hid (HB.out.chg hC1 nmN)
  replace HC := Lib.hid (HC.out.trans hC1)
  replace HF := Lib.hid (HF.out.ch hC1)
  clear hC1
  obtain ⟨x0, x1, x2, x3⟩ := four4 fun _ => (HB.out).cx
  obtain ⟨y0, y1, y2, y3⟩ := four4 fun _ => (HB.out).cy
  have ci := HB.out.ci
  go_wp2_with fail
  refine (Cy.out _ _ HF.out.m4).mono ?_
  rintro e w1 ⟨rfl, hC1⟩
  clear x0 x1 x2 x3 y0 y1 y2 y3 ci
  replace HB := Lib.hid (HB.out.chg hC1 nmN)
  replace HC := Lib.hid (HC.out.trans hC1)
  replace HF := Lib.hid (HF.out.ch hC1)
  clear hC1
  obtain ⟨x0, x1, x2, x3⟩ := four4 fun _ => (HB.out).cx
  obtain ⟨y0, y1, y2, y3⟩ := four4 fun _ => (HB.out).cy
  have ci := HB.out.ci
  go_upto_region 8 with fail
  clear x0 x1 x2 x3 y0 y1 y2 y3 ci
  obtain ⟨y0, y1, y2, y3⟩ := four4 fun _ => (HB.out).cy
  go_wp2_with fail
  refine (C2.out _ _ _ HF.out).mono ?_
  rintro e w1 ⟨rfl, hC1⟩
  clear y0 y1 y2 y3
  replace HB := Lib.hid (HB.out.chg hC1 nmN)
  replace HC := Lib.hid (HC.out.trans hC1)
  replace HF := Lib.hid (HF.out.ch hC1)
  clear hC1
  obtain ⟨W1, hW1⟩ : ∃ W1, w1.alloc (.cells #[.int .u64 (lm s 0 : Nat), .int .u64 (lm s 1 : Nat), .int .u64 (lm s 2 : Nat), .int .u64 (lm s 3 : Nat)] 24) = W1 := ⟨_, rfl⟩
  have hA : Chg [] w1 W1 := by rw [← hW1]; exact (Chg.refl _ _).alloc _
  have hN : U4 W1 w1.heap.size 24 (lm s) := by rw [← hW1]; exact has_alloc_new _ _
  obtain ⟨b_s, hb⟩ : ∃ b, w1.heap.size = b := ⟨_, rfl⟩
  rw [hb] at hN
  replace HB := Lib.hid (HB.out.chg hA nmN)
  replace HC := Lib.hid (HC.out.trans hA)
  replace HF := Lib.hid (HF.out.ch hA)
  have H_s := Lib.hid hN
  go_upto_region 9 with fail
  try rw [hW1]
  try rw [hb]
  clear hW1 hb hA hN
  obtain ⟨x0, x1, x2, x3⟩ := four4 fun _ => (HB.out).cx
  obtain ⟨s0, s1, s2, s3⟩ := four4 fun _ => (H_s.out).cell
  refine abs_region (B := Chg [] W1) (S := Chg [] W1) (by kernel_rfl) ((Chg.refl _ _).drew) ?_
  have hG := good_chg [] W1
  refine Abs.take_at (i := 0) (d := some 47) (v := ?_) rfl rfl (by kernel_rfl) (by kernel_rfl) (by kernel_rfl) (fun _ _ _ h => h) hG ⟨by rfl, fun w9 hw9 => Or.inl ?_⟩ ?_
  rotate_left
  · replace s0 := hw9.cell s0 nmN; replace s1 := hw9.cell s1 nmN; replace s2 := hw9.cell s2 nmN; replace s3 := hw9.cell s3 nmN
    go_simp
    try with_reducible rfl
  simp only [Act.put, stA, stB, stC]
  refine Abs.take_at (i := 1) (d := some 48) (v := ?_) rfl rfl (by kernel_rfl) (by kernel_rfl) (by kernel_rfl) (fun _ _ _ h => h) hG ⟨by rfl, fun w9 hw9 => Or.inl ?_⟩ ?_
  rotate_left
  · go_simp
    try with_reducible rfl
  simp only [Act.put, stA, stB, stC]
  refine Abs.take_at (i := 2) (d := some 49) (v := ?_) rfl rfl (by kernel_rfl) (by kernel_rfl) (by kernel_rfl) (fun _ _ _ h => h) hG ⟨by rfl, fun w9 hw9 => Or.inl ?_⟩ ?_
  rotate_left
  · go_simp
    try with_reducible rfl
  simp only [Act.put, stA, stB, stC]
  refine Abs.take_at (i := 3) (d := some 50) (v := ?_) rfl rfl (by kernel_rfl) (by kernel_rfl) (by kernel_rfl) (fun _ _ _ h => h) hG ⟨by rfl, fun w9 hw9 => Or.inl ?_⟩ ?_
  rotate_left
  · replace x0 := hw9.cell x0 nmN; replace x1 := hw9.cell x1 nmN; replace x2 := hw9.cell x2 nmN; replace x3 := hw9.cell x3 nmN
    go_simp
    try with_reducible rfl
  simp only [Act.put, stA, stB, stC]
  refine Abs.take_at (i := 4) (d := some 51) (v := _) rfl rfl (by kernel_rfl) (by kernel_rfl) (by kernel_rfl) (fun _ _ _ h => h) hG ⟨by rfl, fun w9 hw9 => Or.inr ⟨_, _, ?_, CC.out _ _ w9 (HF.out.ch hw9)⟩⟩ ?_
  · go_simp
    try with_reducible rfl
  simp only [Act.put, stA, stB, stC]
  refine Abs.take_at (i := 5) (d := some 52) (v := ?_) rfl rfl (by kernel_rfl) (by kernel_rfl) (by kernel_rfl) (fun _ _ _ h => h) hG ⟨by rfl, fun w9 hw9 => Or.inl ?_⟩ ?_
  rotate_left
  · go_simp
    try with_reducible rfl
  simp only [Act.put, stA, stB, stC]
  refine Abs.done (by kernel_rfl) (fun wx hx => NoPanic.normal ?_) _
  clear x0 x1 x2 x3 s0 s1 s2 s3
  replace HB := Lib.hid (HB.out.chg hx nmN)
  replace HC := Lib.hid (HC.out.trans hx)
  replace HF := Lib.hid (HF.out.ch hx)
  replace H_s := Lib.hid (H_s.out.chg hx nmN)
  clear hx
  go_wp2_with fail
  go_ret
  exact ⟨rfl, HC.out⟩

set_option maxRecDepth 100000 in
set_option maxHeartbeats 8000000 in
theorem check_on {x y : Fin PP} (he : y * y = cub x) (w : World) :
    Calls Try.prog 15 #[.agg #[.int .u64 (lm x.val 0 : Nat), .int .u64 (lm x.val 1 : Nat), .int .u64 (lm x.val 2 : Nat), .int .u64 (lm x.val 3 : Nat), .int .u64 (lm y.val 0 : Nat), .int .u64 (lm y.val 1 : Nat), .int .u64 (lm y.val 2 : Nat), .int .u64 (lm y.val 3 : Nat), .bool false]] w fun e w' => e = .returned (.int .i64 0) ∧ Chg [] w w' := by
  have HBase := Lib.hid field_base
  obtain ⟨xv, hxv⟩ : ∃ v, x.val = v := ⟨_, rfl⟩
  obtain ⟨yv, hyv⟩ : ∃ v, y.val = v := ⟨_, rfl⟩
  rw [hxv, hyv]
  have hx4 : xv < B6 ^ 4 := by rw [← hxv]; exact val_lt4 x
  have hy4 : yv < B6 ^ 4 := by rw [← hyv]; exact val_lt4 y
  have hx : xv < PP := by rw [← hxv]; exact x.isLt
  have hy : yv < PP := by rw [← hyv]; exact y.isLt
  have hcxv := fun f w hF => field_check (m := PP) (f := f) (x := xv) way_P.lt hx4 w hF
  rw [show chkN xv PP = 0 from if_pos hx] at hcxv
  unfold num limbs at hcxv
  have Cxv := Lib.hid hcxv
  clear hcxv
  have hcyv := fun f w hF => field_check (m := PP) (f := f) (x := yv) way_P.lt hy4 w hF
  rw [show chkN yv PP = 0 from if_pos hy] at hcyv
  unfold num limbs at hcyv
  have Cyv := Lib.hid hcyv
  clear hcyv
  have Cx := Cxv; have Cy := Cyv
  clear Cxv Cyv
  obtain ⟨s, hs⟩ : ∃ v, (y * y).val = v := ⟨_, rfl⟩
  obtain ⟨t, ht⟩ : ∃ v, (cub x).val = v := ⟨_, rfl⟩
  have C2 := Lib.hid (fun f a w hF => fp_mul (f := f) (a := a) hyv hyv hs w hF)
  have CC := Lib.hid (fun f a w hF => curve_cubic (f := f) (a := a) hxv ht w hF)
  have hs4 : s < B6 ^ 4 := by rw [← hs]; exact val_lt4 _
  have ht4 : t < B6 ^ 4 := by rw [← ht]; exact val_lt4 _
  have q := fun w => num_eq hs4 ht4 w
  rw [show decide (s = t) = true by simp only [decide_eq_true_iff]; rw [← hs, ← ht, he]] at q
  clear he hxv hyv hx4 hy4 hx hy hs ht hs4 ht4
  obtain ⟨W0, hW0⟩ : ∃ W0, w.alloc (.cells #[.int .u64 (lm xv 0 : Nat), .int .u64 (lm xv 1 : Nat), .int .u64 (lm xv 2 : Nat), .int .u64 (lm xv 3 : Nat), .int .u64 (lm yv 0 : Nat), .int .u64 (lm yv 1 : Nat), .int .u64 (lm yv 2 : Nat), .int .u64 (lm yv 3 : Nat), .bool false] 26) = W0 := ⟨_, rfl⟩
  have hB : U9 W0 w.heap.size xv yv false := by rw [← hW0]; exact has_alloc_new _ _
  have hC : Chg [] w W0 := by rw [← hW0]; exact (Chg.refl _ _).alloc _
  have HB := Lib.hid hB; have HC := Lib.hid hC
  clear hB hC
  go_enter Try.func15, Try.ntmps15
  go_wp2_with fail
  try rw [hW0]
  clear hW0
  obtain ⟨P, hP⟩ : ∃ P, w.heap.size = P := ⟨_, rfl⟩
  rw [hP] at HB ⊢
  replace hP := Lib.hid hP
  refine (HBase.out _).mono ?_
  rintro e w1 ⟨f, a, rfl, hC1, hF1⟩
  replace HB := Lib.hid (HB.out.chg hC1 nmN)
  replace HC := Lib.hid (HC.out.trans hC1)
  have HF := Lib.hid hF1
  clear hC1 hF1
  obtain ⟨x0, x1, x2, x3⟩ := four4 fun _ => (HB.out).cx
  obtain ⟨y0, y1, y2, y3⟩ := four4 fun _ => (HB.out).cy
  have ci := HB.out.ci
  go_wp2_with fail
  refine (Cx.out _ _ HF.out.m4).mono ?_
  rintro e w1 ⟨rfl, hC1⟩
  clear x0 x1 x2 x3 y0 y1 y2 y3 ci
  replace HB := Lib.hid (HB.out.chg hC1 nmN)
  replace HC := Lib.hid (HC.out.trans hC1)
  replace HF := Lib.hid (HF.out.ch hC1)
  clear hC1
  obtain ⟨x0, x1, x2, x3⟩ := four4 fun _ => (HB.out).cx
  obtain ⟨y0, y1, y2, y3⟩ := four4 fun _ => (HB.out).cy
  have ci := HB.out.ci
  go_wp2_with fail
  refine (Cy.out _ _ HF.out.m4).mono ?_
  rintro e w1 ⟨rfl, hC1⟩
  clear x0 x1 x2 x3 y0 y1 y2 y3 ci
  replace HB := Lib.hid (HB.out.chg hC1 nmN)
  replace HC := Lib.hid (HC.out.trans hC1)
  replace HF := Lib.hid (HF.out.ch hC1)
  clear hC1
  obtain ⟨x0, x1, x2, x3⟩ := four4 fun _ => (HB.out).cx
  obtain ⟨y0, y1, y2, y3⟩ := four4 fun _ => (HB.out).cy
  have ci := HB.out.ci
  go_upto_region 8 with fail
  clear x0 x1 x2 x3 y0 y1 y2 y3 ci
  obtain ⟨y0, y1, y2, y3⟩ := four4 fun _ => (HB.out).cy
  go_wp2_with fail
  refine (C2.out _ _ _ HF.out).mono ?_
  rintro e w1 ⟨rfl, hC1⟩
  clear y0 y1 y2 y3
  replace HB := Lib.hid (HB.out.chg hC1 nmN)
  replace HC := Lib.hid (HC.out.trans hC1)
  replace HF := Lib.hid (HF.out.ch hC1)
  clear hC1
  obtain ⟨W1, hW1⟩ : ∃ W1, w1.alloc (.cells #[.int .u64 (lm s 0 : Nat), .int .u64 (lm s 1 : Nat), .int .u64 (lm s 2 : Nat), .int .u64 (lm s 3 : Nat)] 24) = W1 := ⟨_, rfl⟩
  have hA : Chg [] w1 W1 := by rw [← hW1]; exact (Chg.refl _ _).alloc _
  have hN : U4 W1 w1.heap.size 24 (lm s) := by rw [← hW1]; exact has_alloc_new _ _
  obtain ⟨b_s, hb⟩ : ∃ b, w1.heap.size = b := ⟨_, rfl⟩
  rw [hb] at hN
  replace HB := Lib.hid (HB.out.chg hA nmN)
  replace HC := Lib.hid (HC.out.trans hA)
  replace HF := Lib.hid (HF.out.ch hA)
  have H_s := Lib.hid hN
  go_upto_region 9 with fail
  try rw [hW1]
  try rw [hb]
  clear hW1 hb hA hN
  obtain ⟨x0, x1, x2, x3⟩ := four4 fun _ => (HB.out).cx
  obtain ⟨s0, s1, s2, s3⟩ := four4 fun _ => (H_s.out).cell
  refine abs_region (B := Chg [] W1) (S := Chg [] W1) (by kernel_rfl) ((Chg.refl _ _).drew) ?_
  have hG := good_chg [] W1
  refine Abs.take_at (i := 0) (d := some 47) (v := ?_) rfl rfl (by kernel_rfl) (by kernel_rfl) (by kernel_rfl) (fun _ _ _ h => h) hG ⟨by rfl, fun w9 hw9 => Or.inl ?_⟩ ?_
  rotate_left
  · replace s0 := hw9.cell s0 nmN; replace s1 := hw9.cell s1 nmN; replace s2 := hw9.cell s2 nmN; replace s3 := hw9.cell s3 nmN
    go_simp
    try with_reducible rfl
  simp only [Act.put, stA, stB, stC]
  refine Abs.take_at (i := 1) (d := some 48) (v := ?_) rfl rfl (by kernel_rfl) (by kernel_rfl) (by kernel_rfl) (fun _ _ _ h => h) hG ⟨by rfl, fun w9 hw9 => Or.inl ?_⟩ ?_
  rotate_left
  · go_simp
    try with_reducible rfl
  simp only [Act.put, stA, stB, stC]
  refine Abs.take_at (i := 2) (d := some 49) (v := ?_) rfl rfl (by kernel_rfl) (by kernel_rfl) (by kernel_rfl) (fun _ _ _ h => h) hG ⟨by rfl, fun w9 hw9 => Or.inl ?_⟩ ?_
  rotate_left
  · go_simp
    try with_reducible rfl
  simp only [Act.put, stA, stB, stC]
  refine Abs.take_at (i := 3) (d := some 50) (v := ?_) rfl rfl (by kernel_rfl) (by kernel_rfl) (by kernel_rfl) (fun _ _ _ h => h) hG ⟨by rfl, fun w9 hw9 => Or.inl ?_⟩ ?_
  rotate_left
  · replace x0 := hw9.cell x0 nmN; replace x1 := hw9.cell x1 nmN; replace x2 := hw9.cell x2 nmN; replace x3 := hw9.cell x3 nmN
    go_simp
    try with_reducible rfl
  simp only [Act.put, stA, stB, stC]
  refine Abs.take_at (i := 4) (d := some 51) (v := _) rfl rfl (by kernel_rfl) (by kernel_rfl) (by kernel_rfl) (fun _ _ _ h => h) hG ⟨by rfl, fun w9 hw9 => Or.inr ⟨_, _, ?_, CC.out _ _ w9 (HF.out.ch hw9)⟩⟩ ?_
  · go_simp
    try with_reducible rfl
  simp only [Act.put, stA, stB, stC]
  refine Abs.take_at (i := 5) (d := some 52) (v := ?_) rfl rfl (by kernel_rfl) (by kernel_rfl) (by kernel_rfl) (fun _ _ _ h => h) hG ⟨by rfl, fun w9 hw9 => Or.inl ?_⟩ ?_
  rotate_left
  · go_simp
    try with_reducible rfl
  simp only [Act.put, stA, stB, stC]
  refine Abs.done (by kernel_rfl) (fun wx hx => NoPanic.normal ?_) _
  clear x0 x1 x2 x3 s0 s1 s2 s3
  replace HB := Lib.hid (HB.out.chg hx nmN)
  replace HC := Lib.hid (HC.out.trans hx)
  replace HF := Lib.hid (HF.out.ch hx)
  replace H_s := Lib.hid (H_s.out.chg hx nmN)
  clear hx
  go_wp2_with fail
  go_ret
  exact ⟨rfl, HC.out⟩

end Go.Proofs.Ytplldbmjdnikeaa

/- The formulas of curve.plane stand for the sum of points: plain Lean. -/
namespace Go.Proofs.Ytplldbmjdnikeaa
set_option linter.unusedVariables false
set_option linter.unusedSimpArgs false

section
variable {N : Nat} [NeZero N]
theorem tw_m (x y z m : Fin N) (h : 2 * y * m = 3 * x * x) :
    x * (z * z) * (x * (z * z)) + x * (z * z) * (x * (z * z)) + x * (z * z) * (x * (z * z)) = 2 * y * m * (z * z * z * z) := by
  rw [h]; grind -lia -linarith (ringSteps := 200000)
theorem tw_x (x y z m : Fin N) :
    let Y := y * (z * z * z)
    let s := x * (z * z) * (Y * Y)
    2 * y * m * (z * z * z * z) * (2 * y * m * (z * z * z * z)) - (s + s + (s + s) + (s + s + (s + s))) = (m * m - x - x) * ((Y * z + Y * z) * (Y * z + Y * z)) := by
  intro Y s
  simp only [s, Y]
  grind -lia -linarith (ringSteps := 200000)
theorem tw_y (x y z m X : Fin N) :
    let Y := y * (z * z * z)
    let s := x * (z * z) * (Y * Y)
    let w := Y * Y * (Y * Y)
    2 * y * m * (z * z * z * z) * ((s + s + (s + s)) - X * ((Y * z + Y * z) * (Y * z + Y * z))) - (w + w + (w + w) + (w + w + (w + w))) = (m * (x - X) - y) * ((Y * z + Y * z) * (Y * z + Y * z) * (Y * z + Y * z)) := by
  intro Y s w
  simp only [s, Y, w]
  grind -lia -linarith (ringSteps := 200000)
theorem pl_ua (x a b : Fin N) : x * (a * a) * (b * b) = x * ((a * b) * (a * b)) := by grind -lia -linarith (ringSteps := 200000)
theorem pl_sa (y a b : Fin N) : y * (a * a * a) * (b * b * b) = y * ((a * b) * (a * b) * (a * b)) := by grind -lia -linarith (ringSteps := 200000)
theorem pl_h (x1 x2 k : Fin N) : x2 * (k * k) - x1 * (k * k) = (x2 - x1) * (k * k) := by grind -lia -linarith (ringSteps := 200000)
theorem pl_r (y1 y2 k : Fin N) : y2 * (k * k * k) - y1 * (k * k * k) = (y2 - y1) * (k * k * k) := by grind -lia -linarith (ringSteps := 200000)
theorem pl_x (x1 d k m : Fin N) :
    let h := d * (k * k)
    let r := m * d * (k * k * k)
    let v := x1 * (k * k) * (h * h)
    r * r - h * h * h - (v + v) = (m * m - x1 - (x1 + d)) * (h * k * (h * k)) := by
  intro h r v
  simp only [h, r, v]
  grind -lia -linarith (ringSteps := 200000)
theorem pl_y (x1 y1 d k m X : Fin N) :
    let h := d * (k * k)
    let r := m * d * (k * k * k)
    let v := x1 * (k * k) * (h * h)
    r * (v - X * (h * k * (h * k))) - y1 * (k * k * k) * (h * h * h) = (m * (x1 - X) - y1) * (h * k * (h * k) * (h * k)) := by
  intro h r v
  simp only [h, r, v]
  grind -lia -linarith (ringSteps := 200000)
end

end Go.Proofs.Ytplldbmjdnikeaa

/- What the plane's points stand for: plain Lean. -/
namespace Go.Proofs.Ytplldbmjdnikeaa
set_option linter.unusedVariables false
set_option linter.unusedSimpArgs false

/-- A point of the plane stands for one of the curve. -/
inductive Rep (j : J) : Pc → Prop
  | inf (h : j.z = 0) : Rep j .inf
  | aff {x y : Fin PP} (hz : j.z ≠ 0) (hx : j.x = x * (j.z * j.z)) (hy : j.y = y * (j.z * j.z * j.z)) : Rep j (.aff x y)
theorem Rep.z0 {j : J} (h : Rep j .inf) : j.z = 0 := by cases h; assumption
theorem Rep.nz {j : J} {x y : Fin PP} (h : Rep j (.aff x y)) : j.z ≠ 0 := by cases h; assumption
theorem Rep.xe {j : J} {x y : Fin PP} (h : Rep j (.aff x y)) : j.x = x * (j.z * j.z) := by cases h; assumption
theorem Rep.ye {j : J} {x y : Fin PP} (h : Rep j (.aff x y)) : j.y = y * (j.z * j.z * j.z) := by cases h; assumption

theorem nz_mul {x y : Fin PP} (hx : x ≠ 0) (hy : y ≠ 0) : x * y ≠ 0 := fun h => hy (inv_PP.zero h hx)
theorem nz_dbl {x : Fin PP} (hx : x ≠ 0) : x + x ≠ 0 := fun h => by
  have : 2 * x = 0 := by rw [← h]; grind -lia -linarith (ringSteps := 200000)
  exact hx (inv_PP.zero this two_PP)
theorem self_neg {y : Fin PP} (h : y = -y) : y = 0 := Classical.byContradiction fun hy => nz_dbl hy (by
  have : y + y = y + -y := by rw [← h]
  rw [this]; grind -lia -linarith (ringSteps := 200000))
theorem zero_mul' (x : Fin PP) : 0 * x = 0 := by grind -lia -linarith (ringSteps := 200000)
theorem sub_same (x : Fin PP) : x - x = 0 := by grind -lia -linarith (ringSteps := 200000)
theorem mul_zero' (x : Fin PP) : x * 0 = 0 := by grind -lia -linarith (ringSteps := 200000)

theorem rep_tw {j : J} {P : Pc} (hP : P.on 7) (h : Rep j P) : Rep (jtw j) (addP P P) := by
  cases P with
  | inf =>
    have hz := h.z0
    refine .inf ?_
    unfold jtw
    rw [if_pos (Or.inl hz)]
  | aff x y =>
    have hz := h.nz; have hx := h.xe; have hy := h.ye
    have hon : y * y = x * x * x + 7 := hP
    refine Or.elim (Lin.of_on inv_PP two_PP hon hon) (fun hv => ?_) (fun hex => Exists.elim hex fun m hm => ?_)
    · rw [add_vert inv_PP two_PP hv]
      have h0 := self_neg hv.2
      have hj : j.y = 0 := hy.trans ((congrArg (fun t => t * (j.z * j.z * j.z)) h0).trans (zero_mul' _))
      refine .inf ?_
      unfold jtw
      rw [if_pos (Or.inr hj)]
    · rw [add_lin inv_PP two_PP hm]
      have hm2 : y ≠ 0 ∧ 2 * y * m = 3 * x * x := by
        rcases hm with ⟨h, _⟩ | ⟨_, _, h, h'⟩
        · exact absurd rfl h
        · exact ⟨h, h'⟩
      obtain ⟨jx, jy, jz⟩ := j
      clear h
      replace hz : jz ≠ 0 := hz
      replace hx : jx = x * (jz * jz) := hx
      replace hy : jy = y * (jz * jz * jz) := hy
      have hjy : jy ≠ 0 := by rw [hy]; exact nz_mul hm2.1 (nz_mul (nz_mul hz hz) hz)
      have e : jtw ⟨jx, jy, jz⟩ = jtwN ⟨jx, jy, jz⟩ := by
        unfold jtw
        rw [if_neg (fun h => h.elim hz hjy)]
      rw [e]
      subst hx
      subst hy
      have e1 := tw_m x y jz m hm2.2
      have e2 := tw_x x y jz m
      have e3 := tw_y x y jz m (m * m - x - x)
      simp only at e2 e3
      unfold jtwN
      simp only
      rw [e1]
      refine .aff (nz_dbl (nz_mul hjy hz)) e2 ?_
      rw [e2]
      exact e3

theorem rep_pl {j k : J} {P Q : Pc} (hP : P.on 7) (hQ : Q.on 7) (h : Rep j P) (g : Rep k Q) : Rep (jpl j k) (addP P Q) := by
  cases P with
  | inf =>
    have hz := h.z0
    rw [inf_add]
    unfold jpl
    rw [if_pos hz]
    exact g
  | aff x1 y1 =>
    cases Q with
    | inf =>
      have hz := g.z0
      rw [add_inf]
      unfold jpl
      rw [if_neg h.nz, if_pos hz]
      exact h
    | aff x2 y2 =>
      have hrep := h
      have hz1 := h.nz; have hx1 := h.xe; have hy1 := h.ye
      have hz2 := g.nz; have hx2 := g.xe; have hy2 := g.ye
      have o1 : y1 * y1 = x1 * x1 * x1 + 7 := hP
      have o2 : y2 * y2 = x2 * x2 * x2 + 7 := hQ
      have e0 : jpl j k = jplN j k := by
        unfold jpl
        rw [if_neg hz1, if_neg hz2]
      rw [e0]
      have hk : j.z * k.z ≠ 0 := nz_mul hz1 hz2
      have hk2 : (j.z * k.z) * (j.z * k.z) ≠ 0 := nz_mul hk hk
      have hk3 : (j.z * k.z) * (j.z * k.z) * (j.z * k.z) ≠ 0 := nz_mul hk2 hk
      have eh : k.x * (j.z * j.z) - j.x * (k.z * k.z) = (x2 - x1) * ((j.z * k.z) * (j.z * k.z)) := by
        rw [hx1, hx2, pl_ua x1, show x2 * (k.z * k.z) * (j.z * j.z) = x2 * ((j.z * k.z) * (j.z * k.z)) from by generalize j.z = a; generalize k.z = b; clear hx1 hx2 hy1 hy2 hrep hk hk2 hk3 e0 hz1 hz2 hP hQ o1 o2; grind -lia -linarith (ringSteps := 200000), pl_h]
      have er : k.y * (j.z * j.z * j.z) - j.y * (k.z * k.z * k.z) = (y2 - y1) * ((j.z * k.z) * (j.z * k.z) * (j.z * k.z)) := by
        rw [hy1, hy2, pl_sa y1, show y2 * (k.z * k.z * k.z) * (j.z * j.z * j.z) = y2 * ((j.z * k.z) * (j.z * k.z) * (j.z * k.z)) from by generalize j.z = a; generalize k.z = b; clear hx1 hx2 hy1 hy2 hrep hk hk2 hk3 e0 hz1 hz2 hP hQ o1 o2 eh; grind -lia -linarith (ringSteps := 200000), pl_r]
      unfold jplN
      simp only
      rw [eh, er]
      refine Or.elim (Classical.em (x1 = x2)) (fun hx => ?_) (fun hx => ?_)
      · subst hx
        rw [if_pos ((congrArg (fun t => t * ((j.z * k.z) * (j.z * k.z))) (sub_same x1)).trans (zero_mul' _))]
        refine Or.elim (Classical.em (y1 = y2)) (fun hy => ?_) (fun hy => ?_)
        · subst hy
          rw [if_pos ((congrArg (fun t => t * ((j.z * k.z) * (j.z * k.z) * (j.z * k.z))) (sub_same y1)).trans (zero_mul' _))]
          exact rep_tw hP hrep
        · rw [if_neg (nz_mul (sub_ne (Ne.symm hy)) hk3)]
          have hv : y1 = -y2 := Classical.byContradiction fun hne => by
            have hs : y1 + y2 ≠ 0 := fun e => hne (by clear o1 o2 eh er hP hQ; grind -lia -linarith (ringSteps := 200000))
            have hp : (y1 + y2) * (y1 - y2) = 0 := by
              have : y1 * y1 = y2 * y2 := by rw [o1, o2]
              clear eh er hP hQ o1 o2
              grind -lia -linarith (ringSteps := 200000)
            have := inv_PP.zero hp hs
            exact hy (by clear o1 o2 eh er hP hQ hp; grind -lia -linarith (ringSteps := 200000))
          rw [add_vert inv_PP two_PP ⟨rfl, hv⟩]
          exact .inf rfl
      · have hd : x2 - x1 ≠ 0 := sub_ne (Ne.symm hx)
        rw [if_neg (nz_mul hd hk2)]
        refine Or.elim (Lin.of_on inv_PP two_PP o1 o2) (fun hv => ?_) (fun hex => Exists.elim hex fun m hm => ?_)
        · exact absurd hv.1 hx
        · rw [add_lin inv_PP two_PP hm]
          have hm2 : m * (x2 - x1) = y2 - y1 := by
            rcases hm with ⟨_, h⟩ | ⟨h, _⟩
            · exact h
            · exact absurd h hx
          rw [← hm2]
          obtain ⟨jx, jy, jz⟩ := j
          obtain ⟨kx, ky, kz⟩ := k
          simp only at hx1 hy1 hk hk2 hk3
          obtain ⟨d, hde⟩ : ∃ d, x2 - x1 = d := ⟨_, rfl⟩
          have hx2d : x2 = x1 + d := by rw [← hde]; clear eh er hP hQ o1 o2 hm hm2; grind -lia -linarith (ringSteps := 200000)
          have eua : jx * (kz * kz) = x1 * ((jz * kz) * (jz * kz)) := by rw [hx1]; exact pl_ua x1 jz kz
          have esa : jy * (kz * kz * kz) = y1 * ((jz * kz) * (jz * kz) * (jz * kz)) := by rw [hy1]; exact pl_sa y1 jz kz
          simp only
          rw [hde] at hd ⊢
          rw [eua, esa, hx2d]
          have e1 := pl_x x1 d (jz * kz) m
          have e2 := pl_y x1 y1 d (jz * kz) m (m * m - x1 - (x1 + d))
          simp only at e1 e2
          refine .aff (nz_mul (nz_mul hd hk2) hk) e1 ?_
          rw [e1]
          exact e2

theorem rep_zero : Rep ⟨0, 0, 0⟩ .inf := .inf rfl
theorem rep_one (x y : Fin PP) : Rep ⟨x, y, 1⟩ (.aff x y) := .aff one_PP (by show x = x * (1 * 1); grind -lia -linarith (ringSteps := 200000)) (by show y = y * (1 * 1 * 1); grind -lia -linarith (ringSteps := 200000))
theorem rep_out {j : J} {P : Pc} (h : Rep j P) : jout j = ofP P := by
  cases P with
  | inf =>
    have hz := h.z0
    unfold jout
    rw [if_pos hz]
    rfl
  | aff x y =>
    have hz := h.nz; have hx := h.xe; have hy := h.ye
    have hi := finv_mul hz
    unfold jout
    rw [if_neg hz]
    simp only
    generalize finv j.z = i at *
    generalize j.z = z at *
    have e1 : j.x * (i * i) = x := by rw [hx]; clear hx hy; grind -lia -linarith (ringSteps := 200000)
    have e2 : j.y * (i * i * i) = y := by rw [hy]; clear hx hy; grind -lia -linarith (ringSteps := 200000)
    rw [e1, e2]
    rfl

end Go.Proofs.Ytplldbmjdnikeaa
