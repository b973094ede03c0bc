/- The document's multiple of a point: the walk of wardmoteref03.Times. Printed by times.py. -/
import Derived.Test.YtplldbmjdnikeaaMulR
namespace Go.Proofs.Ytplldbmjdnikeaa
set_option linter.unusedVariables false
set_option linter.unusedSimpArgs false
open Go.RowKit

theorem U12.all {w : World} {b : Nat} {t : TypeId} {x y z : Nat} (h : U12 w b t x y z) : w.cell? ⟨b, 0, none⟩ = some (.int .u64 (lm x 0 : Nat)) ∧ w.cell? ⟨b, 1, none⟩ = some (.int .u64 (lm x 1 : Nat)) ∧ w.cell? ⟨b, 2, none⟩ = some (.int .u64 (lm x 2 : Nat)) ∧ w.cell? ⟨b, 3, none⟩ = some (.int .u64 (lm x 3 : Nat)) ∧ w.cell? ⟨b, 4, none⟩ = some (.int .u64 (lm y 0 : Nat)) ∧ w.cell? ⟨b, 5, none⟩ = some (.int .u64 (lm y 1 : Nat)) ∧ w.cell? ⟨b, 6, none⟩ = some (.int .u64 (lm y 2 : Nat)) ∧ w.cell? ⟨b, 7, none⟩ = some (.int .u64 (lm y 3 : Nat)) ∧ w.cell? ⟨b, 8, none⟩ = some (.int .u64 (lm z 0 : Nat)) ∧ w.cell? ⟨b, 9, none⟩ = some (.int .u64 (lm z 1 : Nat)) ∧ w.cell? ⟨b, 10, none⟩ = some (.int .u64 (lm z 2 : Nat)) ∧ w.cell? ⟨b, 11, none⟩ = some (.int .u64 (lm z 3 : Nat)) := ⟨h.cx (k := 0) (by omega), h.cx (k := 1) (by omega), h.cx (k := 2) (by omega), h.cx (k := 3) (by omega), h.cy (k := 0) (by omega), h.cy (k := 1) (by omega), h.cy (k := 2) (by omega), h.cy (k := 3) (by omega), h.cz (k := 0) (by omega), h.cz (k := 1) (by omega), h.cz (k := 2) (by omega), h.cz (k := 3) (by omega)⟩
theorem U12.fzs {w : World} {b : Nat} {t : TypeId} {x y z : Nat} (h : U12 w b t x y z) : w.frozen? ⟨b, 0, none⟩ = false ∧ w.frozen? ⟨b, 1, none⟩ = false ∧ w.frozen? ⟨b, 2, none⟩ = false ∧ w.frozen? ⟨b, 3, none⟩ = false ∧ w.frozen? ⟨b, 4, none⟩ = false ∧ w.frozen? ⟨b, 5, none⟩ = false ∧ w.frozen? ⟨b, 6, none⟩ = false ∧ w.frozen? ⟨b, 7, none⟩ = false ∧ w.frozen? ⟨b, 8, none⟩ = false ∧ w.frozen? ⟨b, 9, none⟩ = false ∧ w.frozen? ⟨b, 10, none⟩ = false ∧ w.frozen? ⟨b, 11, none⟩ = false := ⟨h.fz 0, h.fz 1, h.fz 2, h.fz 3, h.fz 4, h.fz 5, h.fz 6, h.fz 7, h.fz 8, h.fz 9, h.fz 10, h.fz 11⟩
/-- Block b holds a point of the document. -/
def UO (w : World) (b : Nat) (p : J) : Prop := U12 w b 71 p.x.val p.y.val p.z.val
theorem UO.of {w : World} {b x y z : Nat} {p : J} (h : U12 w b 71 x y z) (hx : p.x.val = x) (hy : p.y.val = y) (hz : p.z.val = z) : UO w b p := by unfold UO; rw [hx, hy, hz]; exact h
theorem UO.one {w : World} {b : Nat} (h : Z12 w b 71) : UO (put12 w b 0 1 0) b ⟨0, 1, 0⟩ := (h.u12.put 0 1 0 : _)
theorem bit_rem (a i k r : Nat) (hk : i / 64 = k) (hr : i % 64 = r) : ((lm a k : Int) / 2 ^ r).tmod 2 = ((a / 2 ^ i % 2 : Nat) : Int) := by
  rw [← bit_nat a i k r hk hr, Int.tmod_eq_emod_of_nonneg (Int.ediv_nonneg (by omega) (Int.pow_nonneg (by omega)))]
  rfl

set_option maxRecDepth 100000 in
set_option maxHeartbeats 8000000 in
theorem ref_ktimes (k : Nat) (a : J) (w : World) :
    Calls Try.prog 52 #[.agg #[.int .u64 (lm k 0 : Nat), .int .u64 (lm k 1 : Nat), .int .u64 (lm k 2 : Nat), .int .u64 (lm k 3 : Nat)], .agg (ov a)] w fun e w' => e = .returned (.agg (ov (rtm k a 256))) ∧ Chg [] w w' := by
  have htw := fun p w => rtwice p w
  have hpl := fun p w => rplus p a w
  obtain ⟨Zr, hZr⟩ : ∃ Z, ov (rtm k a 256) = Z := ⟨_, rfl⟩
  rw [hZr]
  have HZr := Lib.hid hZr
  obtain ⟨ax, hax⟩ : ∃ v, (a).x.val = v := ⟨_, rfl⟩; obtain ⟨ay, hay⟩ : ∃ v, (a).y.val = v := ⟨_, rfl⟩; obtain ⟨az, haz⟩ : ∃ v, (a).z.val = v := ⟨_, rfl⟩
  have ea : ov a = #[.int .u64 (lm ax 0 : Nat), .int .u64 (lm ax 1 : Nat), .int .u64 (lm ax 2 : Nat), .int .u64 (lm ax 3 : Nat), .int .u64 (lm ay 0 : Nat), .int .u64 (lm ay 1 : Nat), .int .u64 (lm ay 2 : Nat), .int .u64 (lm ay 3 : Nat), .int .u64 (lm az 0 : Nat), .int .u64 (lm az 1 : Nat), .int .u64 (lm az 2 : Nat), .int .u64 (lm az 3 : Nat)] := by unfold ov; rw [hax, hay, haz]
  rw [ea] at hpl ⊢
  have HTw := Lib.hid htw; have HPl := Lib.hid hpl
  obtain ⟨W0, hW0⟩ : ∃ W0, (((w.alloc (.cells #[.int .u64 (lm k 0 : Nat), .int .u64 (lm k 1 : Nat), .int .u64 (lm k 2 : Nat), .int .u64 (lm k 3 : Nat)] 24)).alloc (.cells #[.int .u64 (lm ax 0 : Nat), .int .u64 (lm ax 1 : Nat), .int .u64 (lm ax 2 : Nat), .int .u64 (lm ax 3 : Nat), .int .u64 (lm ay 0 : Nat), .int .u64 (lm ay 1 : Nat), .int .u64 (lm ay 2 : Nat), .int .u64 (lm ay 3 : Nat), .int .u64 (lm az 0 : Nat), .int .u64 (lm az 1 : Nat), .int .u64 (lm az 2 : Nat), .int .u64 (lm az 3 : Nat)] 71)).alloc (.cells #[.int .u64 0, .int .u64 0, .int .u64 0, .int .u64 0, .int .u64 0, .int .u64 0, .int .u64 0, .int .u64 0, .int .u64 0, .int .u64 0, .int .u64 0, .int .u64 0] 71)).alloc (.cells #[.int .u64 0, .int .u64 0, .int .u64 0, .int .u64 0, .int .u64 0, .int .u64 0, .int .u64 0, .int .u64 0, .int .u64 0, .int .u64 0, .int .u64 0, .int .u64 0] 71) = W0 := ⟨_, rfl⟩
  obtain ⟨B, hB⟩ : ∃ B, w.heap.size = B := ⟨_, rfl⟩
  have HU := Lib.hid (show U4 W0 B 24 (lm k) by rw [← hW0, ← hB]; exact has_alloc (has_alloc (has_alloc (has_alloc_new _ _))))
  have HA := Lib.hid (show U12 W0 (B + 1) 71 ax ay az by rw [← hW0, ← hB]; exact has_alloc (has_alloc (has_alloc_at (by simp))))
  have HR := Lib.hid (show Z12 W0 (B + 1 + 1) 71 by rw [← hW0, ← hB]; exact has_alloc (has_alloc_at (by simp)))
  have hZ : Z12 W0 (B + 1 + 1 + 1) 71 := by rw [← hW0, ← hB]; exact has_alloc_at (by simp)
  have HC := Lib.hid (show Chg [] w W0 by rw [← hW0]; exact ((((Chg.refl _ _).alloc _).alloc _).alloc _).alloc _)
  clear hZr ea hax hay haz htw hpl
  obtain ⟨n0, n1, n2, n3, n4, n5, n6, n7, n8, n9, n10, n11⟩ := hZ.u12.all
  simp only [lmz] at n0 n1 n2 n3 n4 n5 n6 n7 n8 n9 n10 n11
  obtain ⟨nz0, nz1, nz2, nz3, nz4, nz5, nz6, nz7, nz8, nz9, nz10, nz11⟩ := hZ.u12.fzs
  have hll := lt_of_has hZ
  have HZ := Lib.hid hZ
  clear hZ
  go_enter Try.func52, Try.ntmps52
  go_upto_region 2 with fail
  clear n0 n1 n2 n3 n4 n5 n6 n7 n8 n9 n10 n11 nz0 nz1 nz2 nz3 nz4 nz5 nz6 nz7 nz8 nz9 nz10 nz11 hll
  try rw [hW0]
  clear hW0
  refine (id ?_ : Code.wp _ _ _ _ (put12 W0 (B + 1 + 1 + 1) 0 1 0))
  obtain ⟨R, hRe⟩ : ∃ R, B + 1 + 1 = R := ⟨_, rfl⟩
  obtain ⟨O, hOe⟩ : ∃ O, R + 1 = O := ⟨_, rfl⟩
  rw [hRe, hOe] at HZ
  rw [hRe] at HR
  rw [hRe, hOe]
  have hRO : R < O := by omega
  have hBR : B + 1 < R := by omega
  have hwR : w.heap.size ≤ R := by omega
  have hC1 : Chg [O] W0 (put12 W0 O 0 1 0) := (Chg.refl _ _).put12 (Or.inl (by simp)) 0 1 0
  have HO := Lib.hid (UO.one HZ.out)
  replace HU := Lib.hid (HU.out.chg hC1 (by simp; omega))
  replace HA := Lib.hid (HA.out.chg hC1 (by simp; omega))
  replace HR := Lib.hid (HR.out.chg hC1 (by simp; omega))
  replace HC := Lib.hid (HC.out.trans_new hC1 (by simp; omega))
  clear hC1 HZ
  generalize put12 W0 O 0 1 0 = W1 at *
  clear hRe hOe hB
  go_wp2_with fail
  go_loopg [6] 4 (fun gk i wr => ∃ m : Nat, gk + m = 4 ∧ i = .int .i64 (3 - (m : Int)) ∧ UO wr O (rtm k a (64 * m)) ∧ Chg [O] W1 wr)
  case atStart => exact ⟨0, rfl, rfl, HO.out, Chg.refl _ _⟩
  case round =>
    obtain ⟨m, hm, rfl, hU, hCr⟩ := hrel
    by_cases hlt : m < 4
    · obtain ⟨i, hi⟩ : ∃ i : Nat, 3 - m = i := ⟨_, rfl⟩
      have hi2 : 3 - (m : Int) = (i : Nat) := by omega
      rw [hi2]
      have hi4 : i < 4 := by omega
      have HM := Lib.hid hm; have HI := Lib.hid hi
      have HUo := Lib.hid hU; have HCo := Lib.hid hCr
      clear hi2 hm hi hU hCr
      go_wp2_with fail
      go_loopg [7] 64 (fun gj j wq => ∃ t : Nat, gj + t = 64 ∧ j = .int .i64 (63 - (t : Int)) ∧ UO wq O (rtm k a (64 * m + t)) ∧ Chg [O] W1 wq)
      case atStart => exact ⟨0, rfl, rfl, HUo.out, HCo.out⟩
      case round =>
        obtain ⟨t, ht, rfl, hU, hCr⟩ := hrel
        by_cases hlt2 : t < 64
        · obtain ⟨n, hn⟩ : ∃ n : Nat, 63 - t = n := ⟨_, rfl⟩
          have hn2 : 63 - (t : Int) = (n : Nat) := by omega
          rw [hn2]
          have hn64 : n < 64 := by omega
          have hst : rtm k a (64 * m + (t + 1)) = if k / 2 ^ (64 * i + n) % 2 = 1 then rpl (rtw (rtm k a (64 * m + t))) a else rtw (rtm k a (64 * m + t)) := by
            have e : 255 - (64 * m + t) = 64 * i + n := by have := HI.out; omega
            rw [← e]; rfl
          have hbr := bit_rem k (64 * i + n) i n (by omega) (by omega)
          obtain ⟨o, ho⟩ : ∃ o, rtm k a (64 * m + t) = o := ⟨_, rfl⟩
          rw [ho] at hU hst
          have htw := HTw.out o
          obtain ⟨ox, hox⟩ : ∃ v, (o).x.val = v := ⟨_, rfl⟩; obtain ⟨oy, hoy⟩ : ∃ v, (o).y.val = v := ⟨_, rfl⟩; obtain ⟨oz, hoz⟩ : ∃ v, (o).z.val = v := ⟨_, rfl⟩
          obtain ⟨r, hr⟩ : ∃ r, rtw o = r := ⟨_, rfl⟩
          rw [hr] at htw hst
          obtain ⟨rx, hrx⟩ : ∃ v, (r).x.val = v := ⟨_, rfl⟩; obtain ⟨ry, hry⟩ : ∃ v, (r).y.val = v := ⟨_, rfl⟩; obtain ⟨rz, hrz⟩ : ∃ v, (r).z.val = v := ⟨_, rfl⟩
          have hU' : U12 wr O 71 ox oy oz := by rw [← hox, ← hoy, ← hoz]; exact hU
          unfold ov at htw
          rw [hox, hoy, hoz, hrx, hry, hrz] at htw
          have HTo := Lib.hid htw; have HSt := Lib.hid hst; have HUw := Lib.hid hU'; have HCw := Lib.hid hCr; have HT := Lib.hid ht; have HNn := Lib.hid hn
          have hrU : ∀ w, U12 w O 71 rx ry rz → UO w O r := fun w h => UO.of h hrx hry hrz
          have HrU := Lib.hid hrU
          obtain ⟨bt, hbt⟩ : ∃ bt, k / 2 ^ (64 * i + n) % 2 = bt := ⟨_, rfl⟩
          have hbt1 : bt = 0 ∨ bt = 1 := by omega
          rw [hbt] at hbr HSt
          have HBr := Lib.hid hbr
          have hpl := HPl.out r
          unfold ov at hpl
          rw [hrx, hry, hrz] at hpl
          have HPr := Lib.hid hpl
          clear hn2 hn ht hst ho htw hU hU' hCr hox hoy hoz hrx hry hrz hr hrU hbt hbr hpl
          obtain ⟨ox0, ox1, ox2, ox3, oy0, oy1, oy2, oy3, oz0, oz1, oz2, oz3⟩ := HUw.out.all
          have hll := HUw.out.lt
          go_upto_region 8 with fail
          go_wp2_with fail
          refine (HTo.out _).mono ?_
          rintro e w1 ⟨rfl, hC1⟩
          replace HUw := Lib.hid (HUw.out.chg hC1 nmN)
          replace HCw := Lib.hid (HCw.out.trans (hC1.mono (by simp)))
          clear ox0 ox1 ox2 ox3 oy0 oy1 oy2 oy3 oz0 oz1 oz2 oz3 hll hC1
          obtain ⟨ox0, ox1, ox2, ox3, oy0, oy1, oy2, oy3, oz0, oz1, oz2, oz3⟩ := HUw.out.all
          obtain ⟨nz0, nz1, nz2, nz3, nz4, nz5, nz6, nz7, nz8, nz9, nz10, nz11⟩ := HUw.out.fzs
          have hll := HUw.out.lt
          obtain ⟨W2, hW2⟩ : ∃ W2, put12 w1 O rx ry rz = W2 := ⟨_, rfl⟩
          have hU2 := HUw.out.put rx ry rz; have hC2 := HCw.out.put12 (b := O) (Or.inl (by simp)) rx ry rz
          rw [hW2] at hU2 hC2
          unfold put12 at hW2
          replace HUw := Lib.hid hU2; replace HCw := Lib.hid hC2; have HW2 := Lib.hid hW2
          clear hU2 hC2 hW2
          go_upto_region 9 with fail
          try rw [HW2.out]
          clear ox0 ox1 ox2 ox3 oy0 oy1 oy2 oy3 oz0 oz1 oz2 oz3 nz0 nz1 nz2 nz3 nz4 nz5 nz6 nz7 nz8 nz9 nz10 nz11 hll HW2
          have ki := (HU.out.chg HCw.out (by simp; omega)).cell hi4
          have hbr := HBr.out
          rcases hbt1 with rfl | rfl
          · rw [if_neg (by decide)] at HSt
            go_wp2_with fail
            go_roundg (64 - (t + 1))
            case measure => have := HT.out; omega
            case rel =>
              have e1 : (n : Int) - 1 = 63 - ((t + 1 : Nat) : Int) := by have := HNn.out; have := HT.out; omega
              exact ⟨t + 1, by have := HT.out; omega, by first | exact congrArg _ e1 | (rw [e1]), by rw [HSt.out]; exact HrU.out _ HUw.out, HCw.out⟩
          · rw [if_pos rfl] at HSt
            obtain ⟨s, hs⟩ : ∃ s, rpl r a = s := ⟨_, rfl⟩
            have hpl := HPr.out
            rw [hs] at hpl
            replace HSt := Lib.hid (HSt.out.trans hs)
            obtain ⟨sx, hsx⟩ : ∃ v, (s).x.val = v := ⟨_, rfl⟩; obtain ⟨sy, hsy⟩ : ∃ v, (s).y.val = v := ⟨_, rfl⟩; obtain ⟨sz, hsz⟩ : ∃ v, (s).z.val = v := ⟨_, rfl⟩
            rw [hsx, hsy, hsz] at hpl
            replace HPr := Lib.hid hpl
            have HsU := Lib.hid (show ∀ w, U12 w O 71 sx sy sz → UO w O s from fun w h => UO.of h hsx hsy hsz)
            have HAw := Lib.hid (HA.out.chg HCw.out (by simp; omega))
            clear hs hsx hsy hsz hpl
            go_upto_region 10 with fail
            clear ki hbr
            obtain ⟨ox0, ox1, ox2, ox3, oy0, oy1, oy2, oy3, oz0, oz1, oz2, oz3⟩ := HUw.out.all
            obtain ⟨ax0, ax1, ax2, ax3, ay0, ay1, ay2, ay3, az0, az1, az2, az3⟩ := HAw.out.all
            have hll := HUw.out.lt
            go_wp2_with fail
            refine (HPr.out _).mono ?_
            rintro e w3 ⟨rfl, hC3⟩
            replace HUw := Lib.hid (HUw.out.chg hC3 nmN)
            replace HCw := Lib.hid (HCw.out.trans (hC3.mono (by simp)))
            clear ox0 ox1 ox2 ox3 oy0 oy1 oy2 oy3 oz0 oz1 oz2 oz3 ax0 ax1 ax2 ax3 ay0 ay1 ay2 ay3 az0 az1 az2 az3 hll hC3 HAw
            obtain ⟨ox0, ox1, ox2, ox3, oy0, oy1, oy2, oy3, oz0, oz1, oz2, oz3⟩ := HUw.out.all
            obtain ⟨nz0, nz1, nz2, nz3, nz4, nz5, nz6, nz7, nz8, nz9, nz10, nz11⟩ := HUw.out.fzs
            have hll := HUw.out.lt
            have HUn := Lib.hid (HUw.out.put sx sy sz); have HCn := Lib.hid (HCw.out.put12 (b := O) (Or.inl (by simp)) sx sy sz)
            go_wp2_with fail
            go_roundg (64 - (t + 1))
            case measure => have := HT.out; omega
            case rel =>
              have e1 : (n : Int) - 1 = 63 - ((t + 1 : Nat) : Int) := by have := HNn.out; have := HT.out; omega
              exact ⟨t + 1, by have := HT.out; omega, by first | exact congrArg _ e1 | (rw [e1]), by rw [HSt.out]; exact HsU.out _ HUn.out, HCn.out⟩
        · obtain rfl : t = 64 := by omega
          have HUf := Lib.hid hU; have HCf := Lib.hid hCr
          clear hU hCr
          go_wp2_with fail
          go_roundg (4 - (m + 1))
          case measure => have := HM.out; omega
          case rel =>
            have e1 : (i : Int) - 1 = 3 - ((m + 1 : Nat) : Int) := by have := HI.out; have := HM.out; omega
            exact ⟨m + 1, by have := HM.out; omega, by first | exact congrArg _ e1 | (rw [e1]), by rw [show 64 * (m + 1) = 64 * m + 64 by omega]; exact HUf.out, HCf.out⟩
    · obtain rfl : m = 4 := by omega
      obtain ⟨s, hs⟩ : ∃ s, rtm k a 256 = s := ⟨_, rfl⟩
      have hU : UO wr O (rtm k a 256) := hU
      rw [hs] at hU
      obtain ⟨sx, hsx⟩ : ∃ v, (s).x.val = v := ⟨_, rfl⟩; obtain ⟨sy, hsy⟩ : ∃ v, (s).y.val = v := ⟨_, rfl⟩; obtain ⟨sz, hsz⟩ : ∃ v, (s).z.val = v := ⟨_, rfl⟩
      have hU' : U12 wr O 71 sx sy sz := by rw [← hsx, ← hsy, ← hsz]; exact hU
      have HZ := Lib.hid (show #[.int .u64 (lm sx 0 : Nat), .int .u64 (lm sx 1 : Nat), .int .u64 (lm sx 2 : Nat), .int .u64 (lm sx 3 : Nat), .int .u64 (lm sy 0 : Nat), .int .u64 (lm sy 1 : Nat), .int .u64 (lm sy 2 : Nat), .int .u64 (lm sy 3 : Nat), .int .u64 (lm sz 0 : Nat), .int .u64 (lm sz 1 : Nat), .int .u64 (lm sz 2 : Nat), .int .u64 (lm sz 3 : Nat)] = Zr by rw [← HZr.out, hs]; unfold ov; rw [hsx, hsy, hsz])
      have hRz : Z12 wr R 71 := HR.out.chg hCr (by simp; omega)
      have hCw : Chg [] w wr := HC.out.trans_new hCr (by simp; omega)
      obtain ⟨sx0, sx1, sx2, sx3, sy0, sy1, sy2, sy3, sz0, sz1, sz2, sz3⟩ := hU'.all
      obtain ⟨n0, n1, n2, n3, n4, n5, n6, n7, n8, n9, n10, n11⟩ := hRz.u12.all
      simp only [lmz] at n0 n1 n2 n3 n4 n5 n6 n7 n8 n9 n10 n11
      obtain ⟨nz0, nz1, nz2, nz3, nz4, nz5, nz6, nz7, nz8, nz9, nz10, nz11⟩ := hRz.u12.fzs
      have hll := lt_of_has hRz
      have HF := Lib.hid (hRz.u12.put sx sy sz); have HCF := Lib.hid (hCw.put12 (b := R) (Or.inr hwR) sx sy sz)
      clear hs hsx hsy hsz hU hU' hRz hCw hCr
      go_wp2_with fail
      have hF := HF.out; have hCF := HCF.out
      refine (id ?_ : bodyPost _ _ _ _ _ (put12 wr R sx sy sz))
      clear HF HCF
      generalize put12 wr R sx sy sz = W5 at *
      obtain ⟨g0, g1, g2, g3, g4, g5, g6, g7, g8, g9, g10, g11⟩ := hF.all
      exact bodyPost_ret (v := .agg #[.int .u64 (lm sx 0 : Nat), .int .u64 (lm sx 1 : Nat), .int .u64 (lm sx 2 : Nat), .int .u64 (lm sx 3 : Nat), .int .u64 (lm sy 0 : Nat), .int .u64 (lm sy 1 : Nat), .int .u64 (lm sy 2 : Nat), .int .u64 (lm sy 3 : Nat), .int .u64 (lm sz 0 : Nat), .int .u64 (lm sz 1 : Nat), .int .u64 (lm sz 2 : Nat), .int .u64 (lm sz 3 : Nat)]) (by simp [results, Try.results52, go_sem, g0, g1, g2, g3, g4, g5, g6, g7, g8, g9, g10, g11]) rfl ⟨by rw [HZ.out], hCF⟩

end Go.Proofs.Ytplldbmjdnikeaa
