/- Bytes of points, there and back: plain. -/
import Derived.Test.YtplldbmjdnikeaaEncC
import Derived.Test.YtplldbmjdnikeaaSqrtA
import Derived.Test.YtplldbmjdnikeaaGr
import Derived.Test.YtplldbmjdnikeaaCu3
import Derived.Test.YtplldbmjdnikeaaRe1
namespace Go.Proofs.Ytplldbmjdnikeaa
set_option linter.unusedVariables false
set_option linter.unusedSimpArgs false

/-- The even root of a number's cubic. -/
def yE (x : Fin PP) : Nat := evR PP ((cub x).val ^ rootP % PP)
def rootOK (x : Fin PP) : Prop := ((cub x).val ^ rootP % PP) * ((cub x).val ^ rootP % PP) % PP = (cub x).val

theorem byN_sb (l : List UInt8) (hl : l.length = 32) {j : Nat} (hj : j < 32) : byN (nb l) j = sb l (31 - j) := by
  have hk : j / 8 < 4 := by omega
  rw [← by_nat (nb l) j (j / 8) (j % 8) rfl rfl, lm_nb l hk]
  have h8 : j % 8 < 8 := Nat.mod_lt _ (by decide)
  have hj2 : 31 - j = 31 - (8 * (j / 8) + j % 8) := by omega
  rw [hj2]
  generalize j / 8 = k at *
  generalize j % 8 = r at *
  have b0 := sb_lt l (31 - (8 * k + 0))
  have b1 := sb_lt l (31 - (8 * k + 1))
  have b2 := sb_lt l (31 - (8 * k + 2))
  have b3 := sb_lt l (31 - (8 * k + 3))
  have b4 := sb_lt l (31 - (8 * k + 4))
  have b5 := sb_lt l (31 - (8 * k + 5))
  have b6 := sb_lt l (31 - (8 * k + 6))
  have b7 := sb_lt l (31 - (8 * k + 7))
  have hr : r = 0 ∨ r = 1 ∨ r = 2 ∨ r = 3 ∨ r = 4 ∨ r = 5 ∨ r = 6 ∨ r = 7 := by omega
  simp only [hb, Nat.reduceAdd, Nat.reducePow, Nat.zero_add] at *
  rcases hr with rfl | rfl | rfl | rfl | rfl | rfl | rfl | rfl <;> simp only [Nat.reduceMul, Nat.reducePow] <;> omega
theorem beL_nb {l : List UInt8} (hl : l.length = 32) : beL (nb l) = l := by
  apply List.ext_getElem
  · rw [beL_len, hl]
  · intro i h1 h2
    have hi : i < 32 := by rw [beL_len] at h1; exact h1
    apply UInt8.toNat_inj.1
    have h := beL_at (nb l) h1
    rw [byN_sb l hl (by omega), show 31 - (31 - i) = i by omega] at h
    have : sb l i = l[i].toNat := by
      unfold sb
      rw [List.getD_eq_getElem?_getD, List.getElem?_eq_getElem h2]
      rfl
    omega
theorem sb_beL (x : Nat) {i : Nat} (hi : i < 32) : sb (beL x) i = byN x (31 - i) := by
  have hl : i < (beL x).length := by rw [beL_len]; exact hi
  have h := beL_at x hl
  unfold sb
  rw [List.getD_eq_getElem?_getD, List.getElem?_eq_getElem hl]
  show (beL x)[i].toNat = _
  omega
/-- The bytes of a limb. -/
theorem eight (L : Nat) (h : L < B6) : L % 256 + L / 256 % 256 * 256 + L / 65536 % 256 * 65536 + L / 16777216 % 256 * 16777216 + L / 4294967296 % 256 * 4294967296 + L / 1099511627776 % 256 * 1099511627776 + L / 281474976710656 % 256 * 281474976710656 + L / 72057594037927936 % 256 * 72057594037927936 = L := by
  have h : L < 18446744073709551616 := h
  omega
theorem hb_beL (x : Nat) {k : Nat} (hk : k < 4) : hb (beL x) k 8 = lm x k := by
  have hx := eight (lm x k) (lm_lt x k)
  have hs : ∀ t, t < 8 → sb (beL x) (31 - (8 * k + t)) = lm x k / 2 ^ (8 * t) % 256 := fun t ht => by
    rw [sb_beL x (by omega), show 31 - (31 - (8 * k + t)) = 8 * k + t by omega, by_nat x (8 * k + t) k t (by omega) (by omega)]
  have h0 := hs 0 (by omega); have h1 := hs 1 (by omega); have h2 := hs 2 (by omega); have h3 := hs 3 (by omega); have h4 := hs 4 (by omega); have h5 := hs 5 (by omega); have h6 := hs 6 (by omega); have h7 := hs 7 (by omega)
  simp only [hb, Nat.reduceAdd, Nat.reduceMul, Nat.reducePow, Nat.zero_add] at *
  rw [h0, h1, h2, h3, h4, h5, h6, h7]
  generalize lm x k = L at *
  omega
theorem nb_beL {x : Nat} (hx : x < B6 ^ 4) : nb (beL x) = x := by
  have h : ∀ k, k < 4 → lm (nb (beL x)) k = lm x k := fun k hk => by rw [lm_nb _ hk, hb_beL x hk]
  have e1 := four_limbs (nb_lt (beL x))
  have e2 := four_limbs hx
  rw [h 0 (by omega), h 1 (by omega), h 2 (by omega), h 3 (by omega)] at e1
  omega

theorem y_ne {x y : Fin PP} (h : y * y = cub x) : y ≠ 0 := fun hy => by
  have hT : y * y = x * x * x + 7 := h
  rw [hy, zero_mul'] at hT
  have hv : (x * x * x + 7).val = 0 := by rw [← hT]; rfl
  have h7 : ((7 : Fin PP).val) = 7 := by decide +kernel
  rw [Fin.val_add, h7, Fin.val_mul, Fin.val_mul, Nat.mod_mul_mod] at hv
  refine absurd ?_ (no_cube x.val)
  have hl : x.val * x.val * x.val % PP < PP := Nat.mod_lt _ (by decide)
  have hP7 : 7 < PP := by decide
  generalize x.val * x.val * x.val % PP = c at *
  by_cases hc : c + 7 < PP
  · rw [Nat.mod_eq_of_lt hc] at hv; omega
  · rw [Nat.mod_eq_sub_mod (by omega), Nat.mod_eq_of_lt (by omega)] at hv
    omega
theorem root_sq {x y : Fin PP} (h : y * y = cub x) : rootOK x := by
  have hy := y_ne h
  have hd : ¬ PP ∣ y.val := fun hd => by
    have h1 := Nat.le_of_dvd (Nat.pos_of_ne_zero fun e => hy (Fin.ext (e.trans rfl))) hd
    have := y.isLt
    omega
  have hf := fermat prm_PP hd
  have ha : (cub x).val = y.val * y.val % PP := by rw [← h, Fin.val_mul]
  have e4 : rootP + rootP + (rootP + rootP) = (PP - 1) + 2 := by decide +kernel
  unfold rootOK
  rw [ha, ← Nat.mul_mod, ← Nat.pow_add, ← Nat.pow_mod, ← Nat.pow_two, ← Nat.pow_mul, show 2 * (rootP + rootP) = rootP + rootP + (rootP + rootP) by omega, e4, Nat.pow_add, Nat.mul_mod, hf, Nat.one_mul, Nat.mod_mod]
theorem odd_PP : PP % 2 = 1 := by decide +kernel
theorem ev_val {r : Nat} (h0 : 0 < r) (hr : r < PP) : evR PP r = if r % 2 = 1 then PP - r else r := by
  unfold evR
  rw [Nat.zero_add, Nat.mod_eq_of_lt (show PP - r < PP by omega)]
/-- What has a root has this one, on the curve. -/
theorem root_val {x : Fin PP} (h : rootOK x) : ∃ r : Fin PP, r * r = cub x ∧ r.val = (cub x).val ^ rootP % PP := by
  refine ⟨⟨(cub x).val ^ rootP % PP, Nat.mod_lt _ (by decide)⟩, Fin.ext ?_, rfl⟩
  rw [Fin.val_mul]
  exact h
theorem sq_neg {x r : Fin PP} (h : r * r = cub x) : -r * -r = cub x := by rw [← h]; grind
theorem neg_v {r : Fin PP} (h : r ≠ 0) : (-r).val = PP - r.val := by
  have h0 : 0 < r.val := Nat.pos_of_ne_zero fun e => h (Fin.ext (e.trans rfl))
  rw [Fin.neg_def]
  exact Nat.mod_eq_of_lt (by omega)
/-- The even root is a point's y; its negative the other's. -/
theorem even_root {x : Fin PP} (h : rootOK x) : ∃ r : Fin PP, r * r = cub x ∧ r.val = yE x ∧ r.val % 2 = 0 := by
  obtain ⟨r, h1, h2⟩ := root_val h
  have hr := y_ne h1
  have h0 : 0 < r.val := Nat.pos_of_ne_zero fun e => hr (Fin.ext (e.trans rfl))
  have hl := r.isLt
  have hodd := odd_PP
  have hy : yE x = if r.val % 2 = 1 then PP - r.val else r.val := by
    unfold yE
    rw [← h2]
    exact ev_val h0 hl
  by_cases hp : r.val % 2 = 1
  · refine ⟨-r, sq_neg h1, ?_, ?_⟩
    · rw [hy, if_pos hp, neg_v hr]
    · rw [neg_v hr]; omega
  · exact ⟨r, h1, by rw [hy, if_neg hp], by omega⟩
theorem two_roots {x y r : Fin PP} (h : y * y = cub x) (g : r * r = cub x) : r = y ∨ r = -y := by
  rcases Lin.of_on (b := 7) inv_PP two_PP (show r * r = x * x * x + 7 from g) (show y * y = x * x * x + 7 from h) with ⟨_, h2⟩ | ⟨m, h2⟩
  · exact Or.inr h2
  · rcases h2 with ⟨h3, _⟩ | ⟨_, h3, _⟩
    · exact absurd rfl h3
    · exact Or.inl h3
/-- The tag tells which. -/
theorem tag_back {x y : Fin PP} (h : y * y = cub x) : (y.val % 2 = 0 → yE x = y.val) ∧ (y.val % 2 = 1 → (0 + PP - yE x) % PP = y.val) := by
  obtain ⟨r, h1, h2, h3⟩ := even_root (root_sq h)
  have hy := y_ne h
  have hodd := odd_PP
  have h0 : 0 < y.val := Nat.pos_of_ne_zero fun e => hy (Fin.ext (e.trans rfl))
  have hl := y.isLt
  rcases two_roots h h1 with e | e
  · rw [e] at h2 h3
    exact ⟨fun _ => h2.symm, fun h => by omega⟩
  · have hv : r.val = PP - y.val := by rw [e]; exact neg_v hy
    refine ⟨fun h => by omega, fun _ => ?_⟩
    rw [← h2, hv, Nat.zero_add, show PP - (PP - y.val) = y.val by omega, Nat.mod_eq_of_lt hl]
theorem tag_on {x : Fin PP} (h : rootOK x) : (∃ y : Fin PP, (Pt.aff x y : Pc).on 7 ∧ y.val = yE x ∧ y.val % 2 = 0) ∧ ∃ y : Fin PP, (Pt.aff x y : Pc).on 7 ∧ y.val = (0 + PP - yE x) % PP ∧ y.val % 2 = 1 := by
  obtain ⟨r, h1, h2, h3⟩ := even_root h
  have hr := y_ne h1
  have h0 : 0 < r.val := Nat.pos_of_ne_zero fun e => hr (Fin.ext (e.trans rfl))
  have hl := r.isLt
  have hodd := odd_PP
  refine ⟨⟨r, h1, h2, h3⟩, -r, sq_neg h1, ?_, ?_⟩
  · rw [neg_v hr, ← h2, Nat.zero_add, Nat.mod_eq_of_lt (by omega)]
  · rw [neg_v hr]; omega
theorem split33 {l : List UInt8} (hl : l.length = 33) : l = UInt8.ofNat (sb l 0) :: l.drop 1 := by
  cases l with
  | nil => simp at hl
  | cons a t =>
    show a :: t = UInt8.ofNat (a.toNat) :: t
    rw [UInt8.ofNat_toNat]
theorem enc_tag {l : List UInt8} (hl : l.length = 33) {x y : Fin PP} (hn : nb (l.drop 1) = x.val) (hc : sb l 0 = 2 + y.val % 2) : encL (.aff x y) = l := by
  have h := split33 hl
  show UInt8.ofNat (2 + y.val % 2) :: beL x.val = l
  rw [← hc, ← hn, beL_nb (by rw [List.length_drop]; omega)]
  exact h.symm
theorem enc_len (P : Pc) : (encL P).length = 33 := by
  cases P with
  | inf => exact List.length_replicate
  | aff x y => show (beL x.val).length + 1 = 33; rw [beL_len]
theorem enc_sb (x y : Fin PP) : sb (encL (.aff x y)) 0 = 2 + y.val % 2 := by
  show (UInt8.ofNat (2 + y.val % 2)).toNat = _
  rw [UInt8.toNat_ofNat']
  omega
theorem enc_nb (x y : Fin PP) : nb ((encL (.aff x y)).drop 1) = x.val := nb_beL (Nat.lt_trans x.isLt way_P.lt)
theorem all_zero {l : List UInt8} (hl : l.length = 33) : l = List.replicate 33 0 ↔ ∀ i, i < 33 → sb l i = 0 := by
  constructor
  · intro h i hi
    rw [h]
    unfold sb
    rw [List.getD_eq_getElem?_getD, List.getElem?_replicate, if_pos hi]
    rfl
  · intro h
    apply List.ext_getElem
    · rw [hl, List.length_replicate]
    · intro i h1 h2
      have := h i (by omega)
      unfold sb at this
      rw [List.getD_eq_getElem?_getD, List.getElem?_eq_getElem h1] at this
      rw [List.getElem_replicate]
      apply UInt8.toNat_inj.1
      exact this

end Go.Proofs.Ytplldbmjdnikeaa
