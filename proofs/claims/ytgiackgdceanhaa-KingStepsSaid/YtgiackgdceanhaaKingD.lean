/- The walks of package king, fourth part: a nil node; a node alone ('one'). -/
import Derived.Test.YtgiackgdceanhaaKingC
namespace Go.Proofs.Ytgiackgdceanhaa
set_option linter.unusedVariables false
set_option linter.unusedSimpArgs false
open Go.RowKit

set_option maxHeartbeats 400000 in
theorem king_over_nil (w : World) :
    Calls Try.prog 42 #[.pointer none] w fun e w' => e = .returned (.bool true) ∧ ∃ k, w' = w.drewN k := by
  go_enter Try.func42, Try.ntmps42
  go_wp2_with fail
  go_quiet (fail)
  go_wp2
  go_ret
  exact ⟨rfl, _, rfl⟩

set_option maxHeartbeats 400000 in
theorem king_send_nil (w : World) :
    Calls Try.prog 21 #[.pointer none] w fun e w' => e = .returned (.int .i64 2) ∧ ∃ k, w' = w.drewN k := by
  go_enter Try.func21, Try.ntmps21
  go_wp2_with fail
  refine (king_over_nil _).mono ?_
  rintro e w' ⟨rfl, k, rfl⟩
  go_wp2
  go_ret
  exact ⟨rfl, _, rfl⟩

set_option maxHeartbeats 400000 in
theorem king_hear_nil (A : Value) (w : World) :
    Calls Try.prog 25 #[.pointer none, A] w fun e w' => e = .returned (.int .i64 7) ∧ ∃ k, w' = w.drewN k := by
  go_enter Try.func25, Try.ntmps25
  go_wp2_with fail
  refine (king_over_nil _).mono ?_
  rintro e w' ⟨rfl, k, rfl⟩
  go_wp2
  go_ret
  exact ⟨rfl, _, rfl⟩

set_option maxHeartbeats 400000 in
theorem king_round_nil (w : World) :
    Calls Try.prog 27 #[.pointer none] w fun e w' => e = .returned (.int .i64 0) ∧ w' = w := by
  go_enter Try.func27, Try.ntmps27
  go_wp2
  go_ret
  exact ⟨rfl, rfl⟩

set_option maxHeartbeats 400000 in
theorem king_rounds_nil (w : World) :
    Calls Try.prog 23 #[.pointer none] w fun e w' => e = .returned (.int .i64 0) ∧ w' = w := by
  go_enter Try.func23, Try.ntmps23
  go_wp2
  go_ret
  exact ⟨rfl, rfl⟩

set_option maxHeartbeats 400000 in
theorem king_done_nil (w : World) :
    Calls Try.prog 28 #[.pointer none] w fun e w' => e = .returned (.tuple #[.int .i64 0, .bool false]) ∧ w' = w := by
  go_enter Try.func28, Try.ntmps28
  go_wp2
  go_ret2
  exact ⟨rfl, rfl⟩

def oneB (r : Int) : Bool := decide (2 ≤ r)
theorem one_hear (k : Nat) (hk : k < 3) : hearV 1 0 1 k (oneB k) [1] = (1, oneB ((k : Int) + 1)) := by
  have hc : k = 0 ∨ k = 1 ∨ k = 2 := by omega
  rcases hc with rfl | rfl | rfl <;> decide +kernel

set_option maxHeartbeats 1000000 in
theorem king_one (w : World) :
    Calls Try.prog 20 #[] w fun e w' => e = .returned (.bool true) ∧ Below w.heap.size w w' := by
  go_enter Try.func20, Try.ntmps20
  go_wp2_with fail
  refine (king_new_ok 1 0 1 1 _ (by unfold okNew; omega)).mono ?_
  rintro e w1 ⟨rfl, rfl⟩
  have hK : KN (w.alloc (kingObj 1 0 1 1 0 false)) w.heap.size 1 0 1 1 0 false := ⟨has_alloc_new _ _⟩
  have hc : Chg [] w (w.alloc (kingObj 1 0 1 1 0 false)) := (Chg.refl _ _).alloc _
  generalize (w.alloc (kingObj 1 0 1 1 0 false)) = w1 at *
  generalize hg : w.heap.size = g at *
  have HG := Lib.hid hg
  clear hg
  go_wp2_with fail
  refine (king_rounds _ 1 0 1 1 0 false _ hK (by omega) (by omega)).mono ?_
  rintro e w2 ⟨rfl, rfl⟩
  go_wp2_with fail
  go_loopw [3] (fun i wr => ∃ k : Nat, k ≤ 3 ∧ i = .int .i64 k ∧ KN wr g 1 0 1 1 k (oneB k) ∧ Chg [] w wr) (fun i _ => 3 - (intOf i).toNat)
  case atStart => exact ⟨0, by omega, rfl, hK, hc⟩
  case round =>
    obtain ⟨k, hk, rfl, hKr, hcr⟩ := hrel
    by_cases hlt : k < 3
    · go_wp2_with fail
      refine (king_send _ 1 0 1 1 k (oneB k) _ hKr (by omega) (by omega)).mono ?_
      rw [if_neg (by omega)]
      rintro e w2 ⟨rfl, q, rfl⟩
      go_wp2_with fail
      have hsz := hcr.size
      have hglt := hKr.lt
      refine (king_hear_ok g 1 0 1 1 k (oneB k) (some ⟨wr.heap.size, 0, none⟩) 1 [1] _ ⟨has_alloc (hKr.drewN q).h⟩ (by omega) (by omega) (by omega) (by omega) (by omega) (by omega) (by omega) (by simp) ?_ ?_).mono ?_
      · intro _
        refine ⟨_, 0, rfl, by simp, ?_⟩
        intro i hi
        obtain rfl : i = 0 := by simpa using hi
        exact cell_of_has (has_alloc_new (wr.drewN q) _) 0
      · rintro c o hco
        simp at hco
        omega
      rw [one_hear k hlt]
      rintro e w3 ⟨rfl, hK3, hc3⟩
      go_wp2_with fail
      refine ⟨⟨k+1, by omega, by go_num, hK3, ?_⟩, by simp [intOf]; omega⟩
      have HH := HG.out
      exact ((hcr.drewN q).alloc _).trans_new hc3 (by simp; omega)
    · obtain rfl : k = 3 := by omega
      go_wp2_with fail
      refine (king_done_yes _ 1 0 1 1 3 _ _ hKr (by omega) (by omega) (by omega)).mono ?_
      rintro e w2 ⟨rfl, q, rfl⟩
      go_wp2_with fail
      refine (king_round _ 1 0 1 1 3 _ _ (hKr.drewN q)).mono ?_
      rintro e w3 ⟨rfl, rfl⟩
      go_wp2_with fail
      go_ret
      exact ⟨rfl, (hcr.drewN q).below⟩

set_option maxHeartbeats 1000000 in
theorem king_nil_law (told : Value) (w : World) :
    Calls Try.prog 8 #[told] w fun e w' => e = .returned (.bool true) ∧ Below w.heap.size w w' := by
  go_enter Try.func8, Try.ntmps8
  go_wp2_with fail
  refine (king_done_nil _).mono ?_
  rintro e w2 ⟨rfl, rfl⟩
  go_wp2_with fail
  refine (king_send_nil _).mono ?_
  rintro e w2 ⟨rfl, q, rfl⟩
  go_wp2_with fail
  refine (king_hear_nil _ _).mono ?_
  rintro e w2 ⟨rfl, q2, rfl⟩
  go_wp2_with fail
  refine (king_round_nil _).mono ?_
  rintro e w2 ⟨rfl, rfl⟩
  go_wp2_with fail
  refine (king_rounds_nil _).mono ?_
  rintro e w2 ⟨rfl, rfl⟩
  go_wp2_with fail
  refine (king_one _).mono ?_
  rintro e w2 ⟨rfl, hb⟩
  go_wp2_with fail
  go_ret
  exact ⟨rfl, (((Chg.refl [] _).drewN _).trans (Chg.of_below hb [])).below⟩

open Go.ChangeShapes Go.WideShapes in
theorem kingNil_law {H : Type} (enc : TypeId × Value → H) (W : World) {v0 : Value} {d0 : DataW H} {p0 : List MemPlace} {base : Nat}
    (_h0 : DataW.Trod enc Try.prog W 0 (fun _ => true) true 22 v0 d0 p0) (_k0 : Value.okWide Try.prog W .any base 22 v0)
    (_hsz : (DataW.weightsEach Try.prog [22] [d0]).all (· ≤ reachBytes) = true) :
    Calls Try.prog 8 #[v0] W fun e w' => e = .returned (.bool true) ∧ Below W.heap.size W w' := king_nil_law v0 W

end Go.Proofs.Ytgiackgdceanhaa
