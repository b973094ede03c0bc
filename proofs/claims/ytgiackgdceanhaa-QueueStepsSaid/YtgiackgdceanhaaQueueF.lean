/- The walks of package queue: New, Count, Get, Waiting. -/
import Derived.Test.YtgiackgdceanhaaQueueE
namespace Go.Proofs.Ytgiackgdceanhaa
set_option linter.unusedVariables false
set_option linter.unusedSimpArgs false
open Go.RowKit

theorem queue_new (w : World) : Calls Try.prog 12 #[] w fun e w' => ∃ q r, e = .returned (.pointer (some ⟨q, 0, none⟩)) ∧ w.heap.size ≤ q ∧ QN w' w.heap.size q r (.slice none 0 0) [] ∧ Chg [] w w' := by
  have hmk := run_makeMap (P := Try.prog) 87 w
  go_enter Try.func12, Try.ntmps12
  go_wp2_with fail
  go_ret
  refine ⟨w.heap.size + 1, w.heap.size, rfl, by omega, ?_, ?_⟩
  · exact ⟨has_alloc_at (by simp), (IMap.made w).chg ((Chg.refl [] _).alloc _) (by simp), by simp, by simp, by simp, World.ownsRow_nil _ _ _ _, by simp [waits], by omega, by omega, by simp⟩
  · exact ((Chg.refl [] w).alloc _).alloc _

theorem waits_len_le (l : List Ent) : (waits l).length ≤ l.length := by simp [waits]; exact List.length_filter_le _ _

set_option maxRecDepth 100000 in
theorem queue_count (base q r : Nat) (v : Value) (l : List Ent) (w : World) (hQ : QN w base q r v l) (hl : l.length ≤ 1000000) :
    Calls Try.prog 15 #[.pointer (some ⟨q, 0, none⟩)] w fun e w' => e = .returned (.tuple #[.int .i64 (waits l).length, .int .i64 ((l.length : Int) - (waits l).length)]) ∧ ∃ k, w' = w.drewN k := by
  obtain ⟨a, cap, rfl⟩ := own_shape hQ.hv
  have hle := waits_len_le l
  have hlk : (keys l).length = l.length := by simp [keys]
  have c0 : w.cell? ⟨q, 0, none⟩ = some (.map (some r)) := cell_of_has hQ.hq 0
  have c1 : w.cell? ⟨q, 1, none⟩ = some (.slice a (waits l).length cap) := cell_of_has hQ.hq 1
  have hlen := fun n => run_len_imap (P := Try.prog) (T := 87) (K := 3) (E := 90) Try.underlying87 (hQ.hm.drewN n) 3
  rw [hlk] at hlen
  generalize (waits l).length = n at *
  generalize l.length = m at *
  have hw : IntKind.i64.wrap ((m : Int) - n) = m - n := IntWalk.i64_in _ (by omega)
  clear hQ hlk
  go_enter Try.func15, Try.ntmps15
  go_wp2_with fail
  go_quiet (fail)
  go_wp2
  exact bodyPost_ret (v := .tuple #[.int .i64 n, .int .i64 ((m : Int) - n)]) (by simp [results, Try.results15, go_sem]) rfl ⟨rfl, _, rfl⟩

set_option maxRecDepth 100000 in
theorem queue_get_no (base q r : Nat) (v : Value) (l : List Ent) (id : Int) (w : World) (hQ : QN w base q r v l) (hno : ∀ e ∈ l, e.id ≠ id) :
    Calls Try.prog 37 #[.pointer (some ⟨q, 0, none⟩), .int .i64 id] w fun e w' => e = .returned (.tuple #[.agg #[.int .i64 0, .string ⟨#[]⟩], .bool false]) ∧ Chg [] w w' := by
  have hl := look_keys_none hno
  have c0 : w.cell? ⟨q, 0, none⟩ = some (.map (some r)) := cell_of_has hQ.hq 0
  have hqb := lt_of_has hQ.hq
  have hlk := run_lookup_ok (P := Try.prog) (T := 87) (K := 3) (E := 90) (z := .pointer none) Try.underlying87 Try.underlying3 (by kernel_rfl)
    (hQ.hm.chg ((Chg.refl [] w).alloc (.cells #[.int .i64 0, .string ⟨#[]⟩] 36)) (by simp)) id
  rw [hl] at hlk
  simp only [Option.getD_none, Option.isSome_none] at hlk
  clear hQ hno hl
  go_enter Try.func37, Try.ntmps37
  go_wp2_with fail
  refine bodyPost_ret (v := .tuple #[.agg #[.int .i64 0, .string ⟨#[]⟩], .bool false]) (by simp [results, Try.results37, go_sem]) rfl ⟨rfl, ?_⟩
  repeat (with_reducible first | refine Chg.setCell ?_ ?_ _ | apply Chg.drewN | apply Chg.alloc | exact Chg.refl _ _)
  all_goals exact Or.inr (Nat.le_refl _)

set_option maxRecDepth 100000 in
theorem queue_get (base q r : Nat) (v : Value) (l : List Ent) (e0 : Ent) (w : World) (hQ : QN w base q r v l) (he : e0 ∈ l) :
    Calls Try.prog 37 #[.pointer (some ⟨q, 0, none⟩), .int .i64 e0.id] w fun e w' => e = .returned (.tuple #[.agg #[.int .i64 e0.id, .string e0.m], .bool true]) ∧ Chg [] w w' := by
  have hl := look_keys hQ.hn he
  have c0 : w.cell? ⟨q, 0, none⟩ = some (.map (some r)) := cell_of_has hQ.hq 0
  have hqb := lt_of_has hQ.hq
  have b0 : w.cell? ⟨e0.b, 0, none⟩ = some (.string e0.m) := cell_of_has (hQ.hk e0 he) 0
  have hbb := lt_of_has (hQ.hk e0 he)
  have hlk := run_lookup_ok (P := Try.prog) (T := 87) (K := 3) (E := 90) (z := .pointer none) Try.underlying87 Try.underlying3 (by kernel_rfl)
    (hQ.hm.chg ((Chg.refl [] w).alloc (.cells #[.int .i64 0, .string ⟨#[]⟩] 36)) (by simp)) e0.id
  rw [hl] at hlk
  simp only [Option.getD_some, Option.isSome_some] at hlk
  clear hQ he hl
  go_enter Try.func37, Try.ntmps37
  go_wp2_with fail
  refine bodyPost_ret (v := .tuple #[.agg #[.int .i64 e0.id, .string e0.m], .bool true]) (by simp [results, Try.results37, go_sem]) rfl ⟨rfl, ?_⟩
  repeat (with_reducible first | refine Chg.setCell ?_ ?_ _ | apply Chg.drewN | apply Chg.alloc | exact Chg.refl _ _)
  all_goals exact Or.inr (Nat.le_refl _)

end Go.Proofs.Ytgiackgdceanhaa
