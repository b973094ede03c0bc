/- QueueNil: the walk of the law. -/
import Derived.Test.YtgiackgdceanhaaQueueR
namespace Go.Proofs.Ytgiackgdceanhaa
set_option linter.unusedVariables false
set_option linter.unusedSimpArgs false
open Go.RowKit

set_option maxRecDepth 100000 in
set_option maxHeartbeats 4000000 in
theorem nil_any (id : Int) (m : ByteArray) (W : World) :
    Calls Try.prog 11 #[.agg #[.int .i64 id, .string m]] W fun e w' => e = .returned (.bool true) ∧ Below W.heap.size W w' := by
  have heq1 : ∀ w : World, (Op.equalIn 9998 28 (.agg #[.int .u64 0, .int .u64 0, .int .u64 0, .int .u64 0]) (.agg #[.int .u64 0, .int .u64 0, .int .u64 0, .int .u64 0])).run Try.prog w = .ok true w := fun w => num_eql 0 0 0 0 0 0 0 0 9996 w
  have heq2 : ∀ w : World, (Op.equalIn 9999 28 (.agg #[.int .u64 0, .int .u64 0, .int .u64 0, .int .u64 0]) (.agg #[.int .u64 0, .int .u64 0, .int .u64 0, .int .u64 0])).run Try.prog w = .ok true w := fun w => num_eql 0 0 0 0 0 0 0 0 9997 w
  by_cases hok : okReq id m
  · have hsub := fun w => submit_nil id m w hok
    have HS := Lib.hid hsub
    obtain ⟨h1, h2, h3⟩ := hok
    have h3' : (m.size : Int) ≤ 4096 := by omega
    clear hsub
    go_enter Try.func11, Try.ntmps11
    go_wp2_with fail
    refine (HS.out _).mono ?_
    rintro e w1 ⟨rfl, hC1⟩
    have hb1 := hC1.has (has_alloc_new W (.cells #[.int .i64 id, .string m] 36)) (by simp)
    have hc0 : w1.cell? ⟨W.heap.size, 0, none⟩ = some (.int .i64 id) := cell_of_has hb1 0
    have hc1 : w1.cell? ⟨W.heap.size, 1, none⟩ = some (.string m) := cell_of_has hb1 1
    have hlt : W.heap.size < w1.heap.size := lt_of_has hb1
    have HC1 := Lib.hid hC1; have HB1 := Lib.hid hb1; clear hC1 hb1
    go_wp2_with fail
    refine (get_nil id _).mono ?_
    rintro e w2 ⟨rfl, hC2⟩
    have hC2' : Chg [] w1 w2 := Chg.trans (by repeat (with_reducible first | exact Chg.refl _ _ | refine Chg.setCell ?_ (Or.inr (Nat.le_refl _)) _ | apply Chg.drew | apply Chg.drewN | apply Chg.alloc)) hC2
    have hd0 := hC2'.cell hc0 (by simp)
    have hd1 := hC2'.cell hc1 (by simp)
    have hsg := hC2.has (has_alloc_new w1 (.cells #[.int .u64 0, .int .u64 0, .int .u64 0, .int .u64 0, .int .u64 0, .int .u64 0, .int .u64 0, .int .u64 0, .bool false, .int .u64 0, .int .u64 0, .int .u64 0, .int .u64 0] 32)) (by simp)
    have hlt2 : w1.heap.size < w2.heap.size := lt_of_has hsg; have hlt3 : W.heap.size < w2.heap.size := by omega
    have hsgc0 : w2.cell? ⟨w1.heap.size, 0, none⟩ = some (.int .u64 0) := cell_of_has hsg 0; have hsgz0 : w2.frozen? ⟨w1.heap.size, 0, none⟩ = false := frozen_of_has hsg 0; have hsgc1 : w2.cell? ⟨w1.heap.size, 1, none⟩ = some (.int .u64 0) := cell_of_has hsg 1; have hsgz1 : w2.frozen? ⟨w1.heap.size, 1, none⟩ = false := frozen_of_has hsg 1; have hsgc2 : w2.cell? ⟨w1.heap.size, 2, none⟩ = some (.int .u64 0) := cell_of_has hsg 2; have hsgz2 : w2.frozen? ⟨w1.heap.size, 2, none⟩ = false := frozen_of_has hsg 2; have hsgc3 : w2.cell? ⟨w1.heap.size, 3, none⟩ = some (.int .u64 0) := cell_of_has hsg 3; have hsgz3 : w2.frozen? ⟨w1.heap.size, 3, none⟩ = false := frozen_of_has hsg 3; have hsgc4 : w2.cell? ⟨w1.heap.size, 4, none⟩ = some (.int .u64 0) := cell_of_has hsg 4; have hsgz4 : w2.frozen? ⟨w1.heap.size, 4, none⟩ = false := frozen_of_has hsg 4; have hsgc5 : w2.cell? ⟨w1.heap.size, 5, none⟩ = some (.int .u64 0) := cell_of_has hsg 5; have hsgz5 : w2.frozen? ⟨w1.heap.size, 5, none⟩ = false := frozen_of_has hsg 5; have hsgc6 : w2.cell? ⟨w1.heap.size, 6, none⟩ = some (.int .u64 0) := cell_of_has hsg 6; have hsgz6 : w2.frozen? ⟨w1.heap.size, 6, none⟩ = false := frozen_of_has hsg 6; have hsgc7 : w2.cell? ⟨w1.heap.size, 7, none⟩ = some (.int .u64 0) := cell_of_has hsg 7; have hsgz7 : w2.frozen? ⟨w1.heap.size, 7, none⟩ = false := frozen_of_has hsg 7; have hsgc8 : w2.cell? ⟨w1.heap.size, 8, none⟩ = some (.bool false) := cell_of_has hsg 8; have hsgz8 : w2.frozen? ⟨w1.heap.size, 8, none⟩ = false := frozen_of_has hsg 8; have hsgc9 : w2.cell? ⟨w1.heap.size, 9, none⟩ = some (.int .u64 0) := cell_of_has hsg 9; have hsgz9 : w2.frozen? ⟨w1.heap.size, 9, none⟩ = false := frozen_of_has hsg 9; have hsgc10 : w2.cell? ⟨w1.heap.size, 10, none⟩ = some (.int .u64 0) := cell_of_has hsg 10; have hsgz10 : w2.frozen? ⟨w1.heap.size, 10, none⟩ = false := frozen_of_has hsg 10; have hsgc11 : w2.cell? ⟨w1.heap.size, 11, none⟩ = some (.int .u64 0) := cell_of_has hsg 11; have hsgz11 : w2.frozen? ⟨w1.heap.size, 11, none⟩ = false := frozen_of_has hsg 11; have hsgc12 : w2.cell? ⟨w1.heap.size, 12, none⟩ = some (.int .u64 0) := cell_of_has hsg 12; have hsgz12 : w2.frozen? ⟨w1.heap.size, 12, none⟩ = false := frozen_of_has hsg 12
    have HC2 := Lib.hid hC2'; clear hC2 hC2' hsg
    go_wp2_with fail
    refine (count_nil _).mono ?_
    rintro e w3 ⟨rfl, rfl⟩
    go_wp2_with fail
    refine (finish_nil id .zero _).mono ?_
    rintro e w4 ⟨rfl, hC4⟩
    have hC4' : Chg [] w2 w4 := Chg.trans (by repeat (with_reducible first | exact Chg.refl _ _ | refine Chg.setCell ?_ (Or.inr (Nat.le_refl _)) _ | apply Chg.drew | apply Chg.drewN | apply Chg.alloc)) hC4
    have HC4 := Lib.hid hC4'; clear hC4 hC4'
    go_wp2_with fail
    refine (waiting_nil _).mono ?_
    rintro e w5 ⟨rfl, rfl⟩
    go_wp2_with fail
    refine (law22_four _).mono ?_
    rintro e w6 ⟨rfl, hC6⟩
    go_wp2_with fail
    go_ret
    exact ⟨rfl, (((((Chg.refl [] W).alloc _).trans HC1.out).trans (HC2.out.trans HC4.out)).trans hC6).below⟩

  · have hsub := fun w => submit_bad none id m w hok
    have HS := Lib.hid hsub
    rcases not_okReq hok with h1 | ⟨h1, h2⟩ | ⟨h1, h2, h3⟩
    rotate_right
    have h3' : decide ((m.size : Int) ≤ 4096) = false := by simpa using h3
    rotate_left
    all_goals
      clear hsub hok
      go_enter Try.func11, Try.ntmps11
      go_wp2_with fail
      refine (HS.out _).mono ?_
      rintro e w1 ⟨rfl, hC1⟩
      have hb1 := hC1.has (has_alloc_new W (.cells #[.int .i64 id, .string m] 36)) (by simp)
      have hc0 : w1.cell? ⟨W.heap.size, 0, none⟩ = some (.int .i64 id) := cell_of_has hb1 0
      have hc1 : w1.cell? ⟨W.heap.size, 1, none⟩ = some (.string m) := cell_of_has hb1 1
      have hlt : W.heap.size < w1.heap.size := lt_of_has hb1
      have HC1 := Lib.hid hC1; have HB1 := Lib.hid hb1; clear hC1 hb1
      go_wp2_with fail
      refine (get_nil id _).mono ?_
      rintro e w2 ⟨rfl, hC2⟩
      have hC2' : Chg [] w1 w2 := Chg.trans (by repeat (with_reducible first | exact Chg.refl _ _ | refine Chg.setCell ?_ (Or.inr (Nat.le_refl _)) _ | apply Chg.drew | apply Chg.drewN | apply Chg.alloc)) hC2
      have hd0 := hC2'.cell hc0 (by simp)
      have hd1 := hC2'.cell hc1 (by simp)
      have hsg := hC2.has (has_alloc_new w1 (.cells #[.int .u64 0, .int .u64 0, .int .u64 0, .int .u64 0, .int .u64 0, .int .u64 0, .int .u64 0, .int .u64 0, .bool false, .int .u64 0, .int .u64 0, .int .u64 0, .int .u64 0] 32)) (by simp)
      have hlt2 : w1.heap.size < w2.heap.size := lt_of_has hsg; have hlt3 : W.heap.size < w2.heap.size := by omega
      have hsgc0 : w2.cell? ⟨w1.heap.size, 0, none⟩ = some (.int .u64 0) := cell_of_has hsg 0; have hsgz0 : w2.frozen? ⟨w1.heap.size, 0, none⟩ = false := frozen_of_has hsg 0; have hsgc1 : w2.cell? ⟨w1.heap.size, 1, none⟩ = some (.int .u64 0) := cell_of_has hsg 1; have hsgz1 : w2.frozen? ⟨w1.heap.size, 1, none⟩ = false := frozen_of_has hsg 1; have hsgc2 : w2.cell? ⟨w1.heap.size, 2, none⟩ = some (.int .u64 0) := cell_of_has hsg 2; have hsgz2 : w2.frozen? ⟨w1.heap.size, 2, none⟩ = false := frozen_of_has hsg 2; have hsgc3 : w2.cell? ⟨w1.heap.size, 3, none⟩ = some (.int .u64 0) := cell_of_has hsg 3; have hsgz3 : w2.frozen? ⟨w1.heap.size, 3, none⟩ = false := frozen_of_has hsg 3; have hsgc4 : w2.cell? ⟨w1.heap.size, 4, none⟩ = some (.int .u64 0) := cell_of_has hsg 4; have hsgz4 : w2.frozen? ⟨w1.heap.size, 4, none⟩ = false := frozen_of_has hsg 4; have hsgc5 : w2.cell? ⟨w1.heap.size, 5, none⟩ = some (.int .u64 0) := cell_of_has hsg 5; have hsgz5 : w2.frozen? ⟨w1.heap.size, 5, none⟩ = false := frozen_of_has hsg 5; have hsgc6 : w2.cell? ⟨w1.heap.size, 6, none⟩ = some (.int .u64 0) := cell_of_has hsg 6; have hsgz6 : w2.frozen? ⟨w1.heap.size, 6, none⟩ = false := frozen_of_has hsg 6; have hsgc7 : w2.cell? ⟨w1.heap.size, 7, none⟩ = some (.int .u64 0) := cell_of_has hsg 7; have hsgz7 : w2.frozen? ⟨w1.heap.size, 7, none⟩ = false := frozen_of_has hsg 7; have hsgc8 : w2.cell? ⟨w1.heap.size, 8, none⟩ = some (.bool false) := cell_of_has hsg 8; have hsgz8 : w2.frozen? ⟨w1.heap.size, 8, none⟩ = false := frozen_of_has hsg 8; have hsgc9 : w2.cell? ⟨w1.heap.size, 9, none⟩ = some (.int .u64 0) := cell_of_has hsg 9; have hsgz9 : w2.frozen? ⟨w1.heap.size, 9, none⟩ = false := frozen_of_has hsg 9; have hsgc10 : w2.cell? ⟨w1.heap.size, 10, none⟩ = some (.int .u64 0) := cell_of_has hsg 10; have hsgz10 : w2.frozen? ⟨w1.heap.size, 10, none⟩ = false := frozen_of_has hsg 10; have hsgc11 : w2.cell? ⟨w1.heap.size, 11, none⟩ = some (.int .u64 0) := cell_of_has hsg 11; have hsgz11 : w2.frozen? ⟨w1.heap.size, 11, none⟩ = false := frozen_of_has hsg 11; have hsgc12 : w2.cell? ⟨w1.heap.size, 12, none⟩ = some (.int .u64 0) := cell_of_has hsg 12; have hsgz12 : w2.frozen? ⟨w1.heap.size, 12, none⟩ = false := frozen_of_has hsg 12
      have HC2 := Lib.hid hC2'; clear hC2 hC2' hsg
      go_wp2_with fail
      refine (count_nil _).mono ?_
      rintro e w3 ⟨rfl, rfl⟩
      go_wp2_with fail
      refine (finish_nil id .zero _).mono ?_
      rintro e w4 ⟨rfl, hC4⟩
      have hC4' : Chg [] w2 w4 := Chg.trans (by repeat (with_reducible first | exact Chg.refl _ _ | refine Chg.setCell ?_ (Or.inr (Nat.le_refl _)) _ | apply Chg.drew | apply Chg.drewN | apply Chg.alloc)) hC4
      have HC4 := Lib.hid hC4'; clear hC4 hC4'
      go_wp2_with fail
      refine (waiting_nil _).mono ?_
      rintro e w5 ⟨rfl, rfl⟩
      go_wp2_with fail
      refine (law22_four _).mono ?_
      rintro e w6 ⟨rfl, hC6⟩
      go_wp2_with fail
      go_ret
      exact ⟨rfl, (((((Chg.refl [] W).alloc _).trans HC1.out).trans (HC2.out.trans HC4.out)).trans hC6).below⟩

section
open Go.WideShapes Go.ChangeShapes
variable {H : Type} (enc : TypeId × Value → H) (W : World)

theorem queueNil_law {v0 : Value} {d0 : DataW H} {p0 : List MemPlace} {base : Nat}
    (h0 : DataW.Trod enc Try.prog W 0 (fun _ => true) true 36 v0 d0 p0) (k0 : Value.okWide Try.prog W .any base 36 v0)
    (_hsz : (DataW.weightsEach Try.prog [36] [d0]).all (· ≤ reachBytes) = true) :
    Calls Try.prog 11 #[v0] W fun e w' => e = .returned (.bool true) ∧ Below W.heap.size W w' := by
  obtain ⟨v0, v1, y0, y1, n, rfl, _, _, h0, h1⟩ := Joins.open_agg2 Try.underlying36 (by kernel_rfl) (by kernel_rfl) k0 h0
  obtain ⟨n0, e0, _, w0⟩ := DataW.trod_int (k := .i64) Try.underlying3 h0
  obtain ⟨s, e1, _, _⟩ := DataW.trod_string Try.underlying9 h1
  injection e0 with e0; injection e1 with e1
  subst e0; subst e1
  exact nil_any n0 s W

end

end Go.Proofs.Ytgiackgdceanhaa
