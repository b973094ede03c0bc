/- The law's small case. -/
import Derived.Test.YtogianigkpldcaaBeatE
namespace Go.Proofs.Ytogianigkpldcaa
set_option linter.unusedVariables false
set_option linter.unusedSimpArgs false
open Go.RowKit

def f0 : Nat → Pr := newF 0
def f1 : Nat → Pr := sil f0 (lates 3 1 4 f0)
def f2 : Nat → Pr := sil f1 (lates 3 1 5 f1)
def f3 : Nat → Pr := heardF f2 2 6
theorem five_a : lates 3 1 4 f0 = [] := by decide
theorem five_b : lates 3 1 5 f1 = [2, 3] := by decide
theorem five_c : (f2 2).silent = true := by decide
theorem five_d : toOf 3 1 f3 2 = 8 := by decide
theorem five_e : oth 1 (quietB f3) 4 = [3] := by decide

theorem block_readsI {w : World} {b : Nat} {zs : List Int} {T : TypeId} (h : w.heap[b]? = some (.cells (ints zs).toArray T (0, 0))) : ReadsI w (some ⟨b, 0, none⟩) zs := by
  intro h0
  refine ⟨b, 0, rfl, lt_of_has h, fun i hi => ?_⟩
  rw [cell_of_has h, Nat.zero_add]
  simp [ints, hi]

set_option maxRecDepth 100000 in
set_option maxHeartbeats 2000000 in
theorem five_ok (w : World) : Calls Try.prog 10 #[] w fun e w' => e = .returned (.bool true) ∧ Chg [] w w' := by
  go_enter Try.func10, Try.ntmps10
  go_wp2_with fail
  refine (new_ok 3 1 0 _ ⟨by decide, by decide, by decide, by decide, by decide, by decide⟩).mono ?_
  rintro e w1 ⟨p, q, rfl, hp, hq, hW, hC⟩
  have hpl := lt_of_has hW.hp
  have hql := hW.hq.lt
  have HW := Lib.hid hW; have HC := Lib.hid hC; have HP := Lib.hid hp; have HQ := Lib.hid hq
  clear hW hC hp hq
  go_wp2_with fail
  refine (check_ok p q 3 1 0 f0 4 _ HW.out (by decide) (by decide)).mono ?_
  rw [five_a]
  rintro e w2 ⟨v2, rfl, hv2, hW2, hC2⟩
  obtain ⟨a2, c2, rfl⟩ := own_shape hv2
  have HW2 := Lib.hid hW2; have HC2 := Lib.hid (HC.out.trans_new hC2 (by have := HP.out; have := HQ.out; simp; omega)); have HV2 := Lib.hid hv2
  have hs2 := hC2.size
  clear hW2 hC2 hv2
  go_wp2_with fail
  refine (check_ok p q 3 1 4 f1 5 _ (by rw [f1, five_a]; exact HW2.out) (by decide) (by decide)).mono ?_
  rw [five_b]
  rintro e w3 ⟨v3, rfl, hv3, hW3, hC3⟩
  obtain ⟨a3, c3, rfl⟩ := own_shape hv3
  have HW3 := Lib.hid (show WT w3 p q 3 1 5 f2 by rw [f2, five_b]; exact hW3); have HC3 := Lib.hid (HC2.out.trans_new hC3 (by have := HP.out; have := HQ.out; simp; omega)); have HV3 := Lib.hid hv3
  clear hW3 hC3 hv3
  go_wp2_with fail
  refine (heard_ok p q 3 1 5 f2 2 6 _ HW3.out (by decide) (by decide) (by decide) (by decide)).mono ?_
  rw [five_c]
  rintro e w4 ⟨rfl, hW4, hC4⟩
  have HV4 := Lib.hid (own_chg HV3.out hC4 (by
    intro b hb
    have := (HV3.out.lt b hb).1
    simp; omega))
  have HW4 := Lib.hid (show WT w4 p q 3 1 6 f3 from hW4); have HC4 := Lib.hid (HC3.out.trans_new hC4 (by have := HP.out; have := HQ.out; simp; omega))
  have ht := beat_timeout p q 3 1 6 f3 2 w4 HW4.out
  rw [five_d, show toErr 3 2 = 0 from rfl] at ht
  have hr3 := own_readsI HV4.out
  clear hW4 hC4
  go_wp2_with (first
    | (go_at_call 14; refine ht.mono ?_; rintro e w5 ⟨rfl, rfl⟩)
    | (go_at_call 18; refine (plain_ints _ _ 2 c3 2 2 [2, 3] [2, 3] _ rfl rfl (by decide) (by decide) (hr3.1.chg ((Chg.refl [] w4).alloc _) (by simp)) (block_readsI (has_alloc_new _ _))).mono ?_; rintro e w5 ⟨rfl, k5, rfl⟩))
  refine (beat_silent p q 3 1 6 f3 _ (HW4.out.chg0 (((Chg.refl [] w4).alloc _).drewN _))).mono ?_
  rw [five_e]
  rintro e w6 ⟨v6, rfl, hv6, hC6⟩
  obtain ⟨a6, c6, rfl⟩ := own_shape hv6
  have hr6 := own_readsI hv6
  have HC6 := Lib.hid (HC4.out.trans ((((Chg.refl [] w4).alloc (.cells (ints [2, 3]).toArray 3)).drewN k5).trans hC6))
  clear hv6 hC6
  go_wp2_with (go_at_call 18; refine (plain_ints _ _ 1 c6 1 1 [3] [3] _ rfl rfl (by decide) (by decide) (hr6.1.chg ((Chg.refl [] w6).alloc _) (by simp)) (block_readsI (has_alloc_new _ _))).mono ?_; rintro e w5 ⟨rfl, k7, rfl⟩)
  go_ret
  exact ⟨rfl, (HC6.out.alloc _).drewN _⟩

end Go.Proofs.Ytogianigkpldcaa
