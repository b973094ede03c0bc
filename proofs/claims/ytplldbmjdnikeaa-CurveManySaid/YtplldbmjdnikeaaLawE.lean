/- CurveMany: the walk and the law. Printed by lawe.py. -/
import Derived.Test.YtplldbmjdnikeaaSumD
import Derived.Test.YtplldbmjdnikeaaLawD
import Derived.Test.YtplldbmjdnikeaaOpenRows
namespace Go.Proofs.Ytplldbmjdnikeaa
set_option linter.unusedVariables false
set_option linter.unusedSimpArgs false
open Go.RowKit Go.WideShapes Go.ChangeShapes

set_option maxRecDepth 100000 in
set_option maxHeartbeats 8000000 in
theorem many_far {Ak Ap : Option Addr} {n m ck cp : Nat} (h : 70 < n ∨ 70 < m) (w : World) :
    Calls Try.prog 5 #[.slice Ak n ck, .slice Ap m cp] w fun x w' => x = .returned (.bool true) ∧ Chg [] w w' := by
  have C8 := Lib.hid fun w => law_g w
  have h' : (70 < n) ∨ (n ≤ 70 ∧ 70 < m) := by omega
  clear h
  rcases h' with h | ⟨h, h2⟩
  all_goals
    go_enter Try.func5, Try.ntmps5
    go_wp2_with fail
    refine (C8.out _).mono ?_
    rintro e w1 ⟨rfl, hC1⟩
    go_wp2_with fail
    go_ret
    exact ⟨rfl, hC1⟩

set_option maxRecDepth 100000 in
set_option maxHeartbeats 8000000 in
theorem many_near {Ak Ap : Option Addr} {n m ck cp rx ry : Nat} {ri : Bool} {E : Int} (hn : n ≤ 70) (hm : m ≤ 70) (w : World) (lr : rx < B6 ^ 4 ∧ ry < B6 ^ 4)
    (C1 : Hid (∀ w1, Chg [] w w1 → Calls Try.prog 18 #[.slice Ak n ck, .slice Ap m cp] w1 fun e w' => e = .returned (.tuple #[.agg #[.int .u64 (lm rx 0 : Nat), .int .u64 (lm rx 1 : Nat), .int .u64 (lm rx 2 : Nat), .int .u64 (lm rx 3 : Nat), .int .u64 (lm ry 0 : Nat), .int .u64 (lm ry 1 : Nat), .int .u64 (lm ry 2 : Nat), .int .u64 (lm ry 3 : Nat), .bool ri], .int .i64 E]) ∧ Chg [] w1 w'))
    (C2 : Hid (∀ w1, Chg [] w w1 → Calls Try.prog 19 #[.slice Ak n ck, .slice Ap m cp] w1 fun e w' => e = .returned (.tuple #[.agg #[.int .u64 (lm rx 0 : Nat), .int .u64 (lm rx 1 : Nat), .int .u64 (lm rx 2 : Nat), .int .u64 (lm rx 3 : Nat), .int .u64 (lm ry 0 : Nat), .int .u64 (lm ry 1 : Nat), .int .u64 (lm ry 2 : Nat), .int .u64 (lm ry 3 : Nat), .bool ri], .int .i64 E]) ∧ Chg [] w1 w')) :
    Calls Try.prog 5 #[.slice Ak n ck, .slice Ap m cp] w fun x w' => x = .returned (.bool true) ∧ Chg [] w w' := by
  have C8 := Lib.hid fun w => law_g w
  have HC := Lib.hid (Chg.refl [] w)
  have er1 := fun w => num_eq9 lr.1 lr.1 w
  have er2 := fun w => num_eq9 lr.2 lr.2 w
  simp only [decide_true] at er1 er2
  clear lr
  go_enter Try.func5, Try.ntmps5
  go_wp2_with fail
  refine (C1.out _ HC.out).mono ?_
  rintro e w1 ⟨rfl, hC1⟩
  replace HC := Lib.hid (HC.out.trans hC1)
  clear hC1
  obtain ⟨W1, hW1⟩ : ∃ W1, w1.alloc (.cells #[.int .u64 (lm rx 0 : Nat), .int .u64 (lm rx 1 : Nat), .int .u64 (lm rx 2 : Nat), .int .u64 (lm rx 3 : Nat), .int .u64 (lm ry 0 : Nat), .int .u64 (lm ry 1 : Nat), .int .u64 (lm ry 2 : Nat), .int .u64 (lm ry 3 : Nat), .bool ri] 26) = W1 := ⟨_, rfl⟩
  have hA : Chg [] w1 W1 := by rw [← hW1]; exact (Chg.refl _ _).alloc _
  obtain ⟨b_s, hb⟩ : ∃ b, w1.heap.size = b := ⟨_, rfl⟩
  have hN : U9 W1 (b_s) rx ry ri := by rw [← hb, ← hW1]; exact has_alloc_new _ _
  replace HC := Lib.hid (HC.out.trans hA)
  have Hs := Lib.hid hN
  have HW1 := Lib.hid hW1; have Hb := Lib.hid hb
  clear hW1 hb hA hN
  go_upto_region 4 with fail
  try rw [HW1.out]
  try rw [Hb.out]
  clear HW1 Hb
  go_wp2_with fail
  refine (C2.out _ HC.out).mono ?_
  rintro e w1 ⟨rfl, hC1⟩
  replace Hs := Lib.hid (Hs.out.chg hC1 nmN)
  replace HC := Lib.hid (HC.out.trans hC1)
  clear hC1
  obtain ⟨W1, hW1⟩ : ∃ W1, w1.alloc (.cells #[.int .u64 (lm rx 0 : Nat), .int .u64 (lm rx 1 : Nat), .int .u64 (lm rx 2 : Nat), .int .u64 (lm rx 3 : Nat), .int .u64 (lm ry 0 : Nat), .int .u64 (lm ry 1 : Nat), .int .u64 (lm ry 2 : Nat), .int .u64 (lm ry 3 : Nat), .bool ri] 26) = W1 := ⟨_, rfl⟩
  have hA : Chg [] w1 W1 := by rw [← hW1]; exact (Chg.refl _ _).alloc _
  obtain ⟨b_t, hb⟩ : ∃ b, w1.heap.size = b := ⟨_, rfl⟩
  have hN : U9 W1 (b_t) rx ry ri := by rw [← hb, ← hW1]; exact has_alloc_new _ _
  replace Hs := Lib.hid (Hs.out.chg hA nmN)
  replace HC := Lib.hid (HC.out.trans hA)
  have Ht := Lib.hid hN
  have HW1 := Lib.hid hW1; have Hb := Lib.hid hb
  clear hW1 hb hA hN
  go_upto_region 5 with fail
  try rw [HW1.out]
  try rw [Hb.out]
  clear HW1 Hb
  obtain ⟨s0, s1, s2, s3, s4, s5, s6, s7, s8⟩ := Hs.out.all
  obtain ⟨t0, t1, t2, t3, t4, t5, t6, t7, t8⟩ := Ht.out.all
  go_wp2_with fail
  refine (C8.out _).mono ?_
  rintro e w1 ⟨rfl, hC1⟩
  replace Hs := Lib.hid (Hs.out.chg hC1 nmN)
  replace Ht := Lib.hid (Ht.out.chg hC1 nmN)
  replace HC := Lib.hid (HC.out.trans hC1)
  clear hC1
  go_wp2_with fail
  go_ret
  exact ⟨rfl, HC.out⟩

/-- What is wrong with each, and which point each is. -/
inductive AllErr (ks : List Nat) (ps : List Pd) : Prop
  | mk (P : Nat → Pc) (es : Nat → Nat) (h : ∀ i, i < ks.length → ErrOf (ks.getD i 0) (ps.getD i ⟨0, 0, false⟩) (P i) (es i)) : AllErr ks ps
theorem zero_lt9 : (0 : Nat) < B6 ^ 4 ∧ (0 : Nat) < B6 ^ 4 := by decide
theorem all_err {ks : List Nat} {ps : List Pd} (hl : ps.length = ks.length) (hk : ∀ i, i < ks.length → ks.getD i 0 < B6 ^ 4) (hp : ∀ i, i < ps.length → (ps.getD i ⟨0, 0, false⟩).x < B6 ^ 4 ∧ (ps.getD i ⟨0, 0, false⟩).y < B6 ^ 4) : AllErr ks ps := by
  have h : ∀ i : Nat, ∃ q : Pc × Nat, i < ks.length → ErrOf (ks.getD i 0) (ps.getD i ⟨0, 0, false⟩) q.1 q.2 := fun i => by
    by_cases hi : i < ks.length
    · have hp' := hp i (by omega)
      cases any_err (hk i hi) hp'.1 hp'.2 with
      | mk P e hE => exact ⟨(P, e), fun _ => hE⟩
    · exact ⟨(.inf, 0), fun h => absurd h hi⟩
  obtain ⟨f, hf⟩ := Classical.axiomOfChoice h
  exact ⟨fun i => (f i).1, fun i => (f i).2, hf⟩
theorem manyV_lt (es : Nat → Nat) (ks : List Nat) (P : Nat → Pc) (n : Nat) : (manyV es ks P n).x < B6 ^ 4 ∧ (manyV es ks P n).y < B6 ^ 4 := by
  unfold manyV
  by_cases h : firstE es n = 0
  · rw [if_pos h]; exact ofP_lt _
  · rw [if_neg h]; exact ⟨by show 0 < B6 ^ 4; decide, by show 0 < B6 ^ 4; decide⟩

set_option linter.constructorNameAsVariable false in
set_option maxRecDepth 100000 in
theorem many_any {Ak Ap : Option Addr} {ck cp : Nat} {ks : List Nat} {ps : List Pd} (hk : ∀ i, i < ks.length → ks.getD i 0 < B6 ^ 4) (hp : ∀ i, i < ps.length → (ps.getD i ⟨0, 0, false⟩).x < B6 ^ 4 ∧ (ps.getD i ⟨0, 0, false⟩).y < B6 ^ 4) (w : World)
    (hK : ReadsN w Ak ks) (hS : ReadsP w Ap ps) :
    Calls Try.prog 5 #[.slice Ak ks.length ck, .slice Ap ps.length cp] w fun x w' => x = .returned (.bool true) ∧ Chg [] w w' := by
  by_cases h70 : 70 < ks.length ∨ 70 < ps.length
  · exact many_far h70 w
  · have hn : ks.length ≤ 70 := by omega
    have hm : ps.length ≤ 70 := by omega
    by_cases hb : ks.length ≠ ps.length ∨ 64 < ks.length
    · exact many_near (rx := 0) (ry := 0) (ri := false) (E := 1) hn hm w zero_lt9 (Lib.hid fun w1 _ => curve_sum_len hb w1) (Lib.hid fun w1 _ => ref_sum_len hb w1)
    · have hl : ps.length = ks.length := by omega
      have h64 : ks.length ≤ 64 := by omega
      cases all_err hl hk hp with
      | mk P es hE =>
        have c1 := fun w1 (hc : Chg [] w w1) => curve_sum (ck := ck) (cp := cp) hl h64 w1 (hK.chg hc (by simp)) (hS.chg hc (by simp)) hE
        have c2 := fun w1 (hc : Chg [] w w1) => ref_sum (ck := ck) (cp := cp) hl h64 w1 (hK.chg hc (by simp)) (hS.chg hc (by simp)) hE
        have lr := manyV_lt es ks P ks.length
        generalize manyV es ks P ks.length = T at *
        obtain ⟨rx, ry, ri⟩ := T
        exact many_near hn hm w lr (Lib.hid c1) (Lib.hid c2)

section
variable {H : Type} (enc : TypeId × Value → H) (W : World)
set_option maxRecDepth 100000 in
theorem curveMany_law {v0 v1 : Value} {d0 d1 : DataW H} {p0 p1 : List MemPlace} {base : Nat}
    (h0 : DataW.Trod enc Try.prog W 0 (fun _ => true) true 39 v0 d0 p0) (k0 : Value.okWide Try.prog W .any base 39 v0)
    (h1 : DataW.Trod enc Try.prog W 0 (fun _ => true) true 40 v1 d1 p1) (k1 : Value.okWide Try.prog W .any base 40 v1)
    (_hsz : (DataW.weightsEach Try.prog [39, 40] [d0, d1]).all (· ≤ reachBytes) = true) :
    Calls Try.prog 5 #[v0, v1] W fun e w' => e = .returned (.bool true) ∧ Below W.heap.size W w' := by
  obtain ⟨n0, g0⟩ := h0
  obtain ⟨a0, len0, cap0, rfl⟩ := okWide_slice Try.underlying39 k0
  obtain ⟨A, c, ks, hv, hk, hK⟩ := open_nums g0
  injection hv with e1 e2 e3
  subst e1; subst e2; subst e3
  obtain ⟨n1, g1⟩ := h1
  obtain ⟨a1, len1, cap1, rfl⟩ := okWide_slice Try.underlying40 k1
  obtain ⟨A1, c1, ps, hv, hp, hS⟩ := open_pts g1
  injection hv with e1 e2 e3
  subst e1; subst e2; subst e3
  exact (many_any hk hp W hK hS).mono fun e w' h => ⟨h.1, h.2.below⟩
end

end Go.Proofs.Ytplldbmjdnikeaa
