/- The walk of curve.Sum. Printed by sumc.py. -/
import Derived.Test.YtplldbmjdnikeaaMulP
namespace Go.Proofs.Ytplldbmjdnikeaa
set_option linter.unusedVariables false
set_option linter.unusedSimpArgs false
open Go.RowKit

theorem own_shape {w : World} {base : Nat} {e : TypeId} {size : Nat} {v : Value} {n : Nat} {xs : List Value} (h : w.ownsRow base e size v n xs) : ∃ a cap, v = .slice a n cap := by
  rcases h.2 with ⟨rfl, h0⟩ | ⟨g, cap, cur, rfl, _⟩
  · exact ⟨none, 0, by rw [h0]⟩
  · exact ⟨_, _, rfl⟩
theorem U9.fzs {w : World} {b x y : Nat} {i : Bool} (h : U9 w b x y i) : w.frozen? ⟨b, 0, none⟩ = false ∧ w.frozen? ⟨b, 1, none⟩ = false ∧ w.frozen? ⟨b, 2, none⟩ = false ∧ w.frozen? ⟨b, 3, none⟩ = false ∧ w.frozen? ⟨b, 4, none⟩ = false ∧ w.frozen? ⟨b, 5, none⟩ = false ∧ w.frozen? ⟨b, 6, none⟩ = false ∧ w.frozen? ⟨b, 7, none⟩ = false ∧ w.frozen? ⟨b, 8, none⟩ = false := ⟨h.fz 0, h.fz 1, h.fz 2, h.fz 3, h.fz 4, h.fz 5, h.fz 6, h.fz 7, h.fz 8⟩
/-- A slice that reads as points. -/
def ReadsP (w : World) (A : Option Addr) (ps : List Pd) : Prop := 0 < ps.length → ∃ b off, A = some ⟨b, off, none⟩ ∧ b < w.heap.size ∧ ∀ i, i < ps.length → ∀ c, c < 9 → w.cell? ⟨b, off + i * 9 + c, none⟩ = (pv (ps.getD i ⟨0, 0, false⟩))[c]?
theorem ReadsP.chg {S : List Nat} {w w' : World} {A : Option Addr} {ps : List Pd} (h : ReadsP w A ps) (hc : Chg S w w') (hs : ∀ b off, A = some ⟨b, off, none⟩ → b ∉ S) : ReadsP w' A ps := fun hn => by
  obtain ⟨b, off, e, hb, hx⟩ := h hn
  exact ⟨b, off, e, Nat.lt_of_lt_of_le hb hc.size, fun i hi c hl => (World.cell?_of_block (hc.block b hb (hs b off e))).trans (hx i hi c hl)⟩
/-- The cells of the first so many. -/
def jcs (P : Nat → Pc) : Nat → List Value
  | 0 => []
  | n + 1 => jcs P n ++ (jv (jrep (P n))).toList
theorem jcs_len (P : Nat → Pc) : ∀ n, (jcs P n).length = n * 12
  | 0 => rfl
  | n + 1 => by
    show (jcs P n ++ (jv (jrep (P n))).toList).length = _
    rw [List.length_append, jcs_len P n, Nat.succ_mul]; rfl
theorem jcs_at (P : Nat → Pc) {i c : Nat} (hc : c < 12) : ∀ {n}, i < n → (jcs P n)[i * 12 + c]? = (jv (jrep (P i)))[c]?
  | 0, h => absurd h (by omega)
  | n + 1, h => by
    show (jcs P n ++ (jv (jrep (P n))).toList)[i * 12 + c]? = _
    by_cases hi : i = n
    · rw [hi, List.getElem?_append_right (by rw [jcs_len]; omega), jcs_len, Nat.add_sub_cancel_left, Array.getElem?_toList]
    · rw [List.getElem?_append_left (by rw [jcs_len]; omega), jcs_at P hc (by omega)]
theorem own_readsJ {w : World} {base n cap : Nat} {a : Option Addr} {T : TypeId} {P : Nat → Pc} (h : w.ownsRow base T 12 (.slice a n cap) n (jcs P n)) : ReadsJ w a (jls P n) := by
  intro h0
  rw [jls_len] at h0 ⊢
  rcases h.2 with ⟨hv, h1⟩ | ⟨g, cap2, cur, hv, hb, hg, _⟩
  · omega
  · injection hv with hv1 hv2 hv3
    subst hv1
    refine ⟨g, 0, rfl, lt_of_has hg, fun i hi c hc => ?_⟩
    have hx := jcs_at P hc hi
    have hs : (jv (jrep (P i)))[c]? = some ((jv (jrep (P i)))[c]'(by simp [jv]; omega)) := Array.getElem?_eq_getElem _
    rw [jls_at P hi, hs]
    rw [hs] at hx
    have := h.cells (g := g) rfl _ _ hx
    rwa [addr_add0, ← Nat.zero_add (i * 12)] at this
theorem elem_point : ElemOK Try.prog 82 66 (.agg #[.int .u64 0, .int .u64 0, .int .u64 0, .int .u64 0, .int .u64 0, .int .u64 0, .int .u64 0, .int .u64 0, .int .u64 0, .int .u64 0, .int .u64 0, .int .u64 0]) 12 96 := ⟨Try.underlying82, by kernel_rfl, rfl, by decide⟩

set_option maxRecDepth 100000 in
set_option maxHeartbeats 4000000 in
theorem curve_sum_len {Ak Ap : Option Addr} {n m ck cp : Nat} (h : n ≠ m ∨ 64 < n) (w : World) :
    Calls Try.prog 18 #[.slice Ak n ck, .slice Ap m cp] w fun e w' => e = .returned (.tuple #[.agg (pv ⟨0, 0, false⟩), .int .i64 1]) ∧ Chg [] w w' := by
  obtain ⟨Zr, hZr⟩ : ∃ Z, Ending.returned (.tuple #[.agg (pv ⟨0, 0, false⟩), .int .i64 1]) = Z := ⟨_, rfl⟩
  have HZ : Hid (Ending.returned (.tuple #[.agg #[.int .u64 0, .int .u64 0, .int .u64 0, .int .u64 0, .int .u64 0, .int .u64 0, .int .u64 0, .int .u64 0, .bool false], .int .i64 1]) = Zr) := Lib.hid (by rw [← hZr]; unfold pv; simp only [lmz])
  rw [hZr]
  clear hZr
  obtain ⟨W0, hW0⟩ : ∃ W0, w.alloc (.cells #[.int .u64 0, .int .u64 0, .int .u64 0, .int .u64 0, .int .u64 0, .int .u64 0, .int .u64 0, .int .u64 0, .bool false] 26) = W0 := ⟨_, rfl⟩
  have hR : U9 W0 w.heap.size 0 0 false := U9.zero (by rw [← hW0]; exact has_alloc_new _ _)
  have hC : Chg [] w W0 := by rw [← hW0]; exact (Chg.refl _ _).alloc _
  have HRr := Lib.hid hR; have HCr := Lib.hid hC
  clear hR hC
  have h' : (n ≠ m) ∨ (n = m ∧ 64 < n) := by omega
  clear h
  rcases h' with h | ⟨rfl, h2⟩
  have t1 : ((n : Int) != (m : Int)) = true := by simp; omega
  all_goals
    go_enter Try.func18, Try.ntmps18
    go_upto_region 2 with fail
    try rw [hW0]
    clear hW0
    obtain ⟨R, hwR'⟩ : ∃ R, w.heap.size = R := ⟨_, rfl⟩
    have hwR : w.heap.size ≤ R := Nat.le_of_eq hwR'
    rw [hwR'] at HRr ⊢
    have HwR := Lib.hid hwR'
    clear hwR'
    generalize W0 = w9 at *
    go_upto_region 2 with fail
    obtain ⟨n0, n1, n2, n3, n4, n5, n6, n7, n8⟩ := HRr.out.all
    simp only [lmz] at n0 n1 n2 n3 n4 n5 n6 n7
    obtain ⟨nz0, nz1, nz2, nz3, nz4, nz5, nz6, nz7, nz8⟩ := HRr.out.fzs
    have hll := HRr.out.lt
    have HF := Lib.hid (HRr.out.put 0 0 false); have HCF := Lib.hid (HCr.out.put9 (b := R) (Or.inr hwR) 0 0 false)
    go_wp2_with fail
    have hF := HF.out; have hCF := HCF.out
    refine (id ?_ : bodyPost _ _ _ _ _ (put9 w9 R 0 0 false))
    clear HF HCF
    generalize put9 w9 R 0 0 false = W5 at *
    obtain ⟨g0, g1, g2, g3, g4, g5, g6, g7, g8⟩ := hF.all
    simp only [lmz] at g0 g1 g2 g3 g4 g5 g6 g7
    exact bodyPost_ret (v := .tuple #[.agg #[.int .u64 0, .int .u64 0, .int .u64 0, .int .u64 0, .int .u64 0, .int .u64 0, .int .u64 0, .int .u64 0, .bool false], .int .i64 1]) (by simp [results, Try.results18, go_sem, g0, g1, g2, g3, g4, g5, g6, g7, g8]) rfl ⟨HZ.out, hCF⟩

set_option maxRecDepth 100000 in
set_option maxHeartbeats 8000000 in
theorem curve_sum {Ak Ap : Option Addr} {ck cp : Nat} {ks : List Nat} {ps : List Pd} {P : Nat → Pc} {es : Nat → Nat} (hlen : ps.length = ks.length) (h64 : ks.length ≤ 64) (w : World) (hK : ReadsN w Ak ks) (hS : ReadsP w Ap ps)
    (hE : ∀ i, i < ks.length → ErrOf (ks.getD i 0) (ps.getD i ⟨0, 0, false⟩) (P i) (es i)) :
    Calls Try.prog 18 #[.slice Ak ks.length ck, .slice Ap ps.length cp] w fun e w' => e = .returned (.tuple #[.agg (pv (manyV es ks P ks.length)), .int .i64 (firstE es ks.length : Nat)]) ∧ Chg [] w w' := by
  have hck := fun (f x : Nat) (hx : x < B6 ^ 4) w hF => field_check (m := QQ) (f := f) (by decide +kernel) hx w hF
  unfold num limbs at hck
  have HCk := Lib.hid hck
  have HIn := Lib.hid fun l a P w hP => plane_inP (l := l) (a := a) P w hP
  have HLad := Lib.hid fun (l a : Nat) (js : List J) (Aj : Option Addr) (cj : Nat) hl w hP hK hJ => plane_ladder (l := l) (a := a) ks js Ak Aj ck cj hl h64 w hP hK hJ
  have HOut := Lib.hid fun l a j w hP => plane_out (l := l) (a := a) j w hP
  have HE := Lib.hid hE
  obtain ⟨Zr, hZr⟩ : ∃ Z, (Ending.returned (.tuple #[.agg (pv (manyV es ks P ks.length)), .int .i64 (firstE es ks.length : Nat)])) = Z := ⟨_, rfl⟩
  rw [hZr]
  rw [hlen]
  obtain ⟨n, hn⟩ : ∃ n, ks.length = n := ⟨_, rfl⟩
  rw [hn] at h64 hZr ⊢
  have HZr := Lib.hid hZr; have HN := Lib.hid hn; have HLen := Lib.hid hlen
  clear hZr hn hlen hck hE
  obtain ⟨W0, hW0⟩ : ∃ W0, w.alloc (.cells #[.int .u64 0, .int .u64 0, .int .u64 0, .int .u64 0, .int .u64 0, .int .u64 0, .int .u64 0, .int .u64 0, .bool false] 26) = W0 := ⟨_, rfl⟩
  obtain ⟨R, hwR'⟩ : ∃ R, w.heap.size = R := ⟨_, rfl⟩
  have hR : U9 W0 R 0 0 false := U9.zero (by rw [← hW0, ← hwR']; exact has_alloc_new _ _)
  have hC : Chg [] w W0 := by rw [← hW0]; exact (Chg.refl _ _).alloc _
  have HRr := Lib.hid hR; have HCr := Lib.hid hC; have HKr := Lib.hid (hK.chg hC (by simp)); have HSr := Lib.hid (hS.chg hC (by simp))
  clear hR hC hK hS
  go_enter Try.func18, Try.ntmps18
  go_wp2_with fail
  try rw [hW0]
  try rw [hwR']
  have hwR : w.heap.size ≤ R := Nat.le_of_eq hwR'
  clear hW0 hwR'
  refine (field_scalars _).mono ?_
  rintro e w1 ⟨f, a, rfl, hC1, hF⟩
  replace HRr := Lib.hid (HRr.out.chg hC1 nmN); replace HCr := Lib.hid (HCr.out.trans hC1); replace HKr := Lib.hid (HKr.out.chg hC1 (by simp)); replace HSr := Lib.hid (HSr.out.chg hC1 (by simp))
  have HF := Lib.hid hF
  clear hC1 hF
  go_wp2_with fail
  refine (new_plane _).mono ?_
  rintro e w2 ⟨l, a2, rfl, hC1, hP⟩
  replace HRr := Lib.hid (HRr.out.chg hC1 nmN); replace HCr := Lib.hid (HCr.out.trans hC1); replace HKr := Lib.hid (HKr.out.chg hC1 (by simp)); replace HSr := Lib.hid (HSr.out.chg hC1 (by simp))
  replace HF := Lib.hid (HF.out.ch hC1)
  have HP := Lib.hid hP
  clear hC1 hP
  go_wp2_with fail
  go_loopg [8, 27] n (fun gk v i wr => ∃ (m cap : Nat) (A : Option Addr), gk + m = n ∧ i = .int .i64 m ∧ v = .slice A m cap ∧ firstE es m = 0 ∧ wr.ownsRow w2.heap.size 66 12 (.slice A m cap) m (jcs P m) ∧ Chg [] w2 wr)
  case atStart => exact ⟨0, 0, none, by omega, rfl, rfl, rfl, World.ownsRow_nil _ _ _ _, Chg.refl _ _⟩
  case round =>
    obtain ⟨m, cap, A, hm, rfl, rfl, h0, hown, hCm⟩ := hrel
    by_cases hlt : m < n
    · obtain ⟨bk, offk, rfl, hbk, hxk⟩ := HKr.out.chg hCm (by simp) (by rw [HN.out]; omega)
      obtain ⟨bp, offp, rfl, hbp, hxp⟩ := HSr.out.chg hCm (by simp) (by rw [HLen.out, HN.out]; omega)
      have hxk' := hxk m (by rw [HN.out]; omega)
      have hxp' := hxp m (by rw [HLen.out, HN.out]; omega)
      have hEr := HE.out m (by rw [HN.out]; omega)
      obtain ⟨x, hx⟩ : ∃ x, ks.getD m 0 = x := ⟨_, rfl⟩
      obtain ⟨q, hq⟩ : ∃ q, ps.getD m ⟨0, 0, false⟩ = q := ⟨_, rfl⟩
      obtain ⟨Pm, hPm⟩ : ∃ Pm, P m = Pm := ⟨_, rfl⟩
      obtain ⟨em, hem⟩ : ∃ em, es m = em := ⟨_, rfl⟩
      rw [hx] at hxk'
      rw [hq] at hxp'
      rw [hx, hq, hPm, hem] at hEr
      obtain ⟨qx, qy, qi⟩ := q
      have k0 : wr.cell? ⟨bk, offk + m * 4, none⟩ = some (.int .u64 (lm x 0 : Nat)) := hxk' 0 (by omega)
      have k1 : wr.cell? ⟨bk, offk + m * 4 + 1, none⟩ = some (.int .u64 (lm x 1 : Nat)) := hxk' 1 (by omega)
      have k2 : wr.cell? ⟨bk, offk + m * 4 + 2, none⟩ = some (.int .u64 (lm x 2 : Nat)) := hxk' 2 (by omega)
      have k3 : wr.cell? ⟨bk, offk + m * 4 + 3, none⟩ = some (.int .u64 (lm x 3 : Nat)) := hxk' 3 (by omega)
      have HXp := Lib.hid hxp'; have HOwn := Lib.hid hown; have HCm := Lib.hid hCm; have HM := Lib.hid hm; have HJ : Hid (jcs P (m + 1) = jcs P m ++ (jv (jrep Pm)).toList) := Lib.hid (by rw [← hPm]; rfl)
      have HE1 : Hid (em ≠ 0 → firstE es n = em) := Lib.hid fun hne => by rw [← hem]; exact firstE_at h0 (by rw [hem]; exact hne) hlt
      have HE0 : Hid (em = 0 → firstE es (m + 1) = 0) := Lib.hid fun he => firstE_next h0 (by rw [hem]; exact he)
      clear hxk hxp hxk' hxp' hx hq hPm hem hown hCm hm hbk h0
      cases hEr with
      | range hxQ hx4 =>
        have hck := fun w hF => HCk.out f x hx4 w hF
        rw [show chkN x QQ = 20 from if_neg hxQ] at hck
        have HZ : Hid (Ending.returned (.tuple #[.agg #[.int .u64 0, .int .u64 0, .int .u64 0, .int .u64 0, .int .u64 0, .int .u64 0, .int .u64 0, .int .u64 0, .bool false], .int .i64 20]) = Zr) := Lib.hid (by
          rw [← HZr.out]
          unfold manyV
          rw [HE1.out (by decide), if_neg (by decide)]
          unfold pv
          simp only [lmz]
          rfl)
        have HCk' := Lib.hid hck
        clear hck hxQ hx4
        go_wp2_with fail
        refine (HCk'.out _ (HF.out.ch HCm.out).m4).mono ?_
        rintro e w9 ⟨rfl, hC9⟩
        replace HRr := Lib.hid ((HRr.out.chg HCm.out nmN).chg hC9 nmN); replace HCr := Lib.hid ((HCr.out.trans HCm.out).trans hC9)
        clear hC9 k0 k1 k2 k3
        go_upto_region 11 with fail
        obtain ⟨n0, n1, n2, n3, n4, n5, n6, n7, n8⟩ := HRr.out.all
        simp only [lmz] at n0 n1 n2 n3 n4 n5 n6 n7
        obtain ⟨nz0, nz1, nz2, nz3, nz4, nz5, nz6, nz7, nz8⟩ := HRr.out.fzs
        have hll := HRr.out.lt
        have HF := Lib.hid (HRr.out.put 0 0 false); have HCF := Lib.hid (HCr.out.put9 (b := R) (Or.inr hwR) 0 0 false)
        go_wp2_with fail
        have hF := HF.out; have hCF := HCF.out
        refine (id ?_ : bodyPost _ _ _ _ _ (put9 w9 R 0 0 false))
        clear HF HCF
        generalize put9 w9 R 0 0 false = W5 at *
        obtain ⟨g0, g1, g2, g3, g4, g5, g6, g7, g8⟩ := hF.all
        simp only [lmz] at g0 g1 g2 g3 g4 g5 g6 g7
        exact bodyPost_ret (v := .tuple #[.agg #[.int .u64 0, .int .u64 0, .int .u64 0, .int .u64 0, .int .u64 0, .int .u64 0, .int .u64 0, .int .u64 0, .bool false], .int .i64 20]) (by simp [results, Try.results18, go_sem, g0, g1, g2, g3, g4, g5, g6, g7, g8]) rfl ⟨HZ.out, hCF⟩
      | curve hxQ hb =>
        have hck := fun w hF => HCk.out f x (Nat.lt_trans hxQ way_Q.lt) w hF
        rw [show chkN x QQ = 0 from if_pos hxQ] at hck
        have hcb := fun w => check_bad hb w
        unfold pv at hcb
        have HZ : Hid (Ending.returned (.tuple #[.agg #[.int .u64 0, .int .u64 0, .int .u64 0, .int .u64 0, .int .u64 0, .int .u64 0, .int .u64 0, .int .u64 0, .bool false], .int .i64 30]) = Zr) := Lib.hid (by
          rw [← HZr.out]
          unfold manyV
          rw [HE1.out (by decide), if_neg (by decide)]
          unfold pv
          simp only [lmz]
          rfl)
        have HCk' := Lib.hid hck; have HCb := Lib.hid hcb
        clear hck hxQ hb hcb
        go_wp2_with fail
        refine (HCk'.out _ (HF.out.ch HCm.out).m4).mono ?_
        rintro e w8 ⟨rfl, hC9⟩
        replace HRr := Lib.hid ((HRr.out.chg HCm.out nmN).chg hC9 nmN); replace HCr := Lib.hid ((HCr.out.trans HCm.out).trans hC9)
        have p0 : w8.cell? ⟨bp, offp + m * 9, none⟩ = some (.int .u64 (lm qx 0 : Nat)) := (World.cell?_of_block (hC9.block bp hbp nmN)).trans (HXp.out 0 (by omega)); have p1 : w8.cell? ⟨bp, offp + m * 9 + 1, none⟩ = some (.int .u64 (lm qx 1 : Nat)) := (World.cell?_of_block (hC9.block bp hbp nmN)).trans (HXp.out 1 (by omega)); have p2 : w8.cell? ⟨bp, offp + m * 9 + 2, none⟩ = some (.int .u64 (lm qx 2 : Nat)) := (World.cell?_of_block (hC9.block bp hbp nmN)).trans (HXp.out 2 (by omega)); have p3 : w8.cell? ⟨bp, offp + m * 9 + 3, none⟩ = some (.int .u64 (lm qx 3 : Nat)) := (World.cell?_of_block (hC9.block bp hbp nmN)).trans (HXp.out 3 (by omega)); have p4 : w8.cell? ⟨bp, offp + m * 9 + 4, none⟩ = some (.int .u64 (lm qy 0 : Nat)) := (World.cell?_of_block (hC9.block bp hbp nmN)).trans (HXp.out 4 (by omega)); have p5 : w8.cell? ⟨bp, offp + m * 9 + 5, none⟩ = some (.int .u64 (lm qy 1 : Nat)) := (World.cell?_of_block (hC9.block bp hbp nmN)).trans (HXp.out 5 (by omega)); have p6 : w8.cell? ⟨bp, offp + m * 9 + 6, none⟩ = some (.int .u64 (lm qy 2 : Nat)) := (World.cell?_of_block (hC9.block bp hbp nmN)).trans (HXp.out 6 (by omega)); have p7 : w8.cell? ⟨bp, offp + m * 9 + 7, none⟩ = some (.int .u64 (lm qy 3 : Nat)) := (World.cell?_of_block (hC9.block bp hbp nmN)).trans (HXp.out 7 (by omega)); have p8 : w8.cell? ⟨bp, offp + m * 9 + 8, none⟩ = some (.bool qi) := (World.cell?_of_block (hC9.block bp hbp nmN)).trans (HXp.out 8 (by omega))
        clear hC9 k0 k1 k2 k3
        go_wp2_with fail
        refine (HCb.out _).mono ?_
        rintro e w9 ⟨rfl, hC9⟩
        replace HRr := Lib.hid (HRr.out.chg hC9 nmN); replace HCr := Lib.hid (HCr.out.trans hC9)
        clear hC9 p0 p1 p2 p3 p4 p5 p6 p7 p8
        go_upto_region 14 with fail
        obtain ⟨n0, n1, n2, n3, n4, n5, n6, n7, n8⟩ := HRr.out.all
        simp only [lmz] at n0 n1 n2 n3 n4 n5 n6 n7
        obtain ⟨nz0, nz1, nz2, nz3, nz4, nz5, nz6, nz7, nz8⟩ := HRr.out.fzs
        have hll := HRr.out.lt
        have HF := Lib.hid (HRr.out.put 0 0 false); have HCF := Lib.hid (HCr.out.put9 (b := R) (Or.inr hwR) 0 0 false)
        go_wp2_with fail
        have hF := HF.out; have hCF := HCF.out
        refine (id ?_ : bodyPost _ _ _ _ _ (put9 w9 R 0 0 false))
        clear HF HCF
        generalize put9 w9 R 0 0 false = W5 at *
        obtain ⟨g0, g1, g2, g3, g4, g5, g6, g7, g8⟩ := hF.all
        simp only [lmz] at g0 g1 g2 g3 g4 g5 g6 g7
        exact bodyPost_ret (v := .tuple #[.agg #[.int .u64 0, .int .u64 0, .int .u64 0, .int .u64 0, .int .u64 0, .int .u64 0, .int .u64 0, .int .u64 0, .bool false], .int .i64 30]) (by simp [results, Try.results18, go_sem, g0, g1, g2, g3, g4, g5, g6, g7, g8]) rfl ⟨HZ.out, hCF⟩
      | fine hxQ hPm hp =>
        have hck := fun w hF => HCk.out f x (Nat.lt_trans hxQ way_Q.lt) w hF
        rw [show chkN x QQ = 0 from if_pos hxQ] at hck
        have hcb := fun w => check_ok hPm w
        have hin := fun w hP => HIn.out l a2 Pm w hP
        obtain ⟨jx, hjx⟩ : ∃ v, mu (jrep Pm).x = v := ⟨_, rfl⟩
        obtain ⟨jy, hjy⟩ : ∃ v, mu (jrep Pm).y = v := ⟨_, rfl⟩
        obtain ⟨jz, hjz⟩ : ∃ v, mu (jrep Pm).z = v := ⟨_, rfl⟩
        have ej : jv (jrep Pm) = #[.int .u64 (lm jx 0 : Nat), .int .u64 (lm jx 1 : Nat), .int .u64 (lm jx 2 : Nat), .int .u64 (lm jx 3 : Nat), .int .u64 (lm jy 0 : Nat), .int .u64 (lm jy 1 : Nat), .int .u64 (lm jy 2 : Nat), .int .u64 (lm jy 3 : Nat), .int .u64 (lm jz 0 : Nat), .int .u64 (lm jz 1 : Nat), .int .u64 (lm jz 2 : Nat), .int .u64 (lm jz 3 : Nat)] := by unfold jv; rw [hjx, hjy, hjz]
        rw [← hp] at hcb hin
        rw [ej] at hin
        have hJ := HJ.out
        rw [ej] at hJ
        replace HJ := Lib.hid hJ
        unfold pv at hcb hin
        have HCk' := Lib.hid hck; have HCb := Lib.hid hcb; have HIn' := Lib.hid hin
        clear hck hxQ hcb hin hPm hp hjx hjy hjz ej hJ
        go_wp2_with fail
        refine (HCk'.out _ (HF.out.ch HCm.out).m4).mono ?_
        rintro e w8 ⟨rfl, hC9⟩
        have p0 : w8.cell? ⟨bp, offp + m * 9, none⟩ = some (.int .u64 (lm qx 0 : Nat)) := (World.cell?_of_block (hC9.block bp hbp nmN)).trans (HXp.out 0 (by omega)); have p1 : w8.cell? ⟨bp, offp + m * 9 + 1, none⟩ = some (.int .u64 (lm qx 1 : Nat)) := (World.cell?_of_block (hC9.block bp hbp nmN)).trans (HXp.out 1 (by omega)); have p2 : w8.cell? ⟨bp, offp + m * 9 + 2, none⟩ = some (.int .u64 (lm qx 2 : Nat)) := (World.cell?_of_block (hC9.block bp hbp nmN)).trans (HXp.out 2 (by omega)); have p3 : w8.cell? ⟨bp, offp + m * 9 + 3, none⟩ = some (.int .u64 (lm qx 3 : Nat)) := (World.cell?_of_block (hC9.block bp hbp nmN)).trans (HXp.out 3 (by omega)); have p4 : w8.cell? ⟨bp, offp + m * 9 + 4, none⟩ = some (.int .u64 (lm qy 0 : Nat)) := (World.cell?_of_block (hC9.block bp hbp nmN)).trans (HXp.out 4 (by omega)); have p5 : w8.cell? ⟨bp, offp + m * 9 + 5, none⟩ = some (.int .u64 (lm qy 1 : Nat)) := (World.cell?_of_block (hC9.block bp hbp nmN)).trans (HXp.out 5 (by omega)); have p6 : w8.cell? ⟨bp, offp + m * 9 + 6, none⟩ = some (.int .u64 (lm qy 2 : Nat)) := (World.cell?_of_block (hC9.block bp hbp nmN)).trans (HXp.out 6 (by omega)); have p7 : w8.cell? ⟨bp, offp + m * 9 + 7, none⟩ = some (.int .u64 (lm qy 3 : Nat)) := (World.cell?_of_block (hC9.block bp hbp nmN)).trans (HXp.out 7 (by omega)); have p8 : w8.cell? ⟨bp, offp + m * 9 + 8, none⟩ = some (.bool qi) := (World.cell?_of_block (hC9.block bp hbp nmN)).trans (HXp.out 8 (by omega))
        have HC8 := Lib.hid hC9
        clear hC9 k0 k1 k2 k3
        go_wp2_with fail
        refine (HCb.out _).mono ?_
        rintro e w9 ⟨rfl, hC9⟩
        have hA9 := HC8.out.trans hC9
        have q0 : w9.cell? ⟨bp, offp + m * 9, none⟩ = some (.int .u64 (lm qx 0 : Nat)) := (World.cell?_of_block (hA9.block bp hbp nmN)).trans (HXp.out 0 (by omega)); have q1 : w9.cell? ⟨bp, offp + m * 9 + 1, none⟩ = some (.int .u64 (lm qx 1 : Nat)) := (World.cell?_of_block (hA9.block bp hbp nmN)).trans (HXp.out 1 (by omega)); have q2 : w9.cell? ⟨bp, offp + m * 9 + 2, none⟩ = some (.int .u64 (lm qx 2 : Nat)) := (World.cell?_of_block (hA9.block bp hbp nmN)).trans (HXp.out 2 (by omega)); have q3 : w9.cell? ⟨bp, offp + m * 9 + 3, none⟩ = some (.int .u64 (lm qx 3 : Nat)) := (World.cell?_of_block (hA9.block bp hbp nmN)).trans (HXp.out 3 (by omega)); have q4 : w9.cell? ⟨bp, offp + m * 9 + 4, none⟩ = some (.int .u64 (lm qy 0 : Nat)) := (World.cell?_of_block (hA9.block bp hbp nmN)).trans (HXp.out 4 (by omega)); have q5 : w9.cell? ⟨bp, offp + m * 9 + 5, none⟩ = some (.int .u64 (lm qy 1 : Nat)) := (World.cell?_of_block (hA9.block bp hbp nmN)).trans (HXp.out 5 (by omega)); have q6 : w9.cell? ⟨bp, offp + m * 9 + 6, none⟩ = some (.int .u64 (lm qy 2 : Nat)) := (World.cell?_of_block (hA9.block bp hbp nmN)).trans (HXp.out 6 (by omega)); have q7 : w9.cell? ⟨bp, offp + m * 9 + 7, none⟩ = some (.int .u64 (lm qy 3 : Nat)) := (World.cell?_of_block (hA9.block bp hbp nmN)).trans (HXp.out 7 (by omega)); have q8 : w9.cell? ⟨bp, offp + m * 9 + 8, none⟩ = some (.bool qi) := (World.cell?_of_block (hA9.block bp hbp nmN)).trans (HXp.out 8 (by omega))
        have HC9 := Lib.hid hA9
        clear hC9 hA9 p0 p1 p2 p3 p4 p5 p6 p7 p8
        go_wp2_with fail
        refine (HIn'.out _ (HP.out.ch (HCm.out.trans HC9.out))).mono ?_
        rintro e w7 ⟨rfl, hC7⟩
        have HC7 := Lib.hid (HC9.out.trans hC7)
        have hown := own_chg HOwn.out HC7.out (by simp)
        have hsz := HC7.out.size
        have hsz2 := HCm.out.size
        clear hC7 q0 q1 q2 q3 q4 q5 q6 q7 q8
        go_wp2_with (at_builtin; go_loud (refine wpList_push rfl (.tmp 49) (.tmp 56) 82 rfl elem_point w2.heap.size rfl (hown.alloc _) w7.heap.size #[.int .u64 (lm jx 0 : Nat), .int .u64 (lm jx 1 : Nat), .int .u64 (lm jx 2 : Nat), .int .u64 (lm jx 3 : Nat), .int .u64 (lm jy 0 : Nat), .int .u64 (lm jy 1 : Nat), .int .u64 (lm jy 2 : Nat), .int .u64 (lm jy 3 : Nat), .int .u64 (lm jz 0 : Nat), .int .u64 (lm jz 1 : Nat), .int .u64 (lm jz 2 : Nat), .int .u64 (lm jz 3 : Nat)] rfl rfl (has_alloc_at (by first | rfl | (simp; done))) (by simp [Value.oneCell']) (by omega) (by omega) (by simp; omega) ?_; intro v3 w6 hown6 hgrow6 hat6; obtain ⟨a3, cap3, rfl⟩ := own_shape hown6))
        go_roundg (n - (m + 1))
        case measure => have := HM.out; omega
        case rel =>
          refine ⟨m + 1, cap3, a3, by have := HM.out; omega, by go_num, rfl, HE0.out (by first | rfl | trivial), by rw [HJ.out]; exact hown6, ?_⟩
          refine ((HCm.out.trans HC7.out).alloc _).grown hgrow6 ?_
          intro b3 hb3
          exact Or.inr (hown.lt b3 hb3).1
    · obtain rfl : m = n := by omega
      have hok := fun i (hi : i < m) => (HE.out i (by rw [HN.out]; exact hi))
      have hz := firstE_zero h0
      have hok2 : ∀ i, i < m → ks.getD i 0 < QQ ∧ (P i).on 7 := fun i hi => by
        have h := hok i hi
        rw [hz i hi] at h
        exact ⟨h.ok.1, h.ok.2.1⟩
      have hlo := lad_out HN.out (P := P) (fun i hi => Nat.lt_trans (hok2 i hi).1 way_Q.lt) (fun i hi => (hok2 i hi).2)
      have hlad := fun w hP hK hJ => HLad.out l a2 (jls P m) A cap (by rw [jls_len, HN.out]) w hP hK hJ
      rw [jls_len, HN.out] at hlad
      obtain ⟨V, hV⟩ : ∃ V, jlad ks (jls P m) 256 = V := ⟨_, rfl⟩
      rw [hV] at hlad hlo
      have hout := fun w hP => HOut.out l a2 V w hP
      rw [hlo] at hout
      obtain ⟨T, hT⟩ : ∃ T, ofP (sumF (fun j => ks.getD j 0) P m) = T := ⟨_, rfl⟩
      have hzr : Ending.returned (.tuple #[.agg (pv T), .int .i64 0]) = Zr := by
        rw [← HZr.out, h0]
        unfold manyV
        rw [if_pos h0, hT]
        rfl
      rw [hT] at hout
      obtain ⟨rx, ry, ri⟩ := T
      unfold pv at hout hzr
      obtain ⟨VV, hVV⟩ : ∃ VV, jv V = VV := ⟨_, rfl⟩
      rw [hVV] at hlad hout
      have HLd := Lib.hid hlad; have HOt := Lib.hid hout; have HZ := Lib.hid hzr; have HJs := Lib.hid (own_readsJ hown)
      have HCm := Lib.hid hCm
      clear hok hz hok2 hlo hlad hV hout hT hzr hVV hown h0 hCm hm
      go_wp2_with fail
      refine (HLd.out _ (HP.out.ch HCm.out) (HKr.out.chg HCm.out (by simp)) HJs.out).mono ?_
      rintro e w8 ⟨rfl, hC8⟩
      replace HCm := Lib.hid (HCm.out.trans hC8)
      clear hC8
      go_wp2_with fail
      refine (HOt.out _ (HP.out.ch HCm.out)).mono ?_
      rintro e w9 ⟨rfl, hC9⟩
      replace HCm := Lib.hid (HCm.out.trans hC9)
      have HR9 := Lib.hid (HRr.out.chg HCm.out nmN)
      clear hC9
      obtain ⟨n0, n1, n2, n3, n4, n5, n6, n7, n8⟩ := HR9.out.all
      obtain ⟨nz0, nz1, nz2, nz3, nz4, nz5, nz6, nz7, nz8⟩ := HR9.out.fzs
      have hll := HR9.out.lt
      have HF9 := Lib.hid (HR9.out.put rx ry ri); have HCF := Lib.hid ((HCr.out.trans HCm.out).put9 (b := R) (Or.inr hwR) rx ry ri)
      go_wp2_with fail
      have hF := HF9.out; have hCF := HCF.out
      refine (id ?_ : bodyPost _ _ _ _ _ (put9 w9 R rx ry ri))
      clear HF9 HCF
      generalize put9 w9 R rx ry ri = W5 at *
      obtain ⟨g0, g1, g2, g3, g4, g5, g6, g7, g8⟩ := hF.all
      exact bodyPost_ret (v := .tuple #[.agg #[.int .u64 (lm rx 0 : Nat), .int .u64 (lm rx 1 : Nat), .int .u64 (lm rx 2 : Nat), .int .u64 (lm rx 3 : Nat), .int .u64 (lm ry 0 : Nat), .int .u64 (lm ry 1 : Nat), .int .u64 (lm ry 2 : Nat), .int .u64 (lm ry 3 : Nat), .bool ri], .int .i64 0]) (by simp [results, Try.results18, go_sem, g0, g1, g2, g3, g4, g5, g6, g7, g8]) rfl ⟨HZ.out, hCF⟩

end Go.Proofs.Ytplldbmjdnikeaa
