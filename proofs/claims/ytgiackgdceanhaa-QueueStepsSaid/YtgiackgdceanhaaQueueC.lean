/- The walks of package queue: the queue as plain data; nil queues and what is refused. -/
import Derived.Test.YtgiackgdceanhaaQueueB
namespace Go.Proofs.Ytgiackgdceanhaa
set_option linter.unusedVariables false
set_option linter.unusedSimpArgs false
open Go.RowKit

/-- The cells of an api.Sig. -/
structure Sg where
  x0 : Int
  x1 : Int
  x2 : Int
  x3 : Int
  y0 : Int
  y1 : Int
  y2 : Int
  y3 : Int
  inf : Bool
  z0 : Int
  z1 : Int
  z2 : Int
  z3 : Int

def Sg.zero : Sg := ⟨0, 0, 0, 0, 0, 0, 0, 0, false, 0, 0, 0, 0⟩
def Sg.arr (s : Sg) : Array Value := #[.int .u64 s.x0, .int .u64 s.x1, .int .u64 s.x2, .int .u64 s.x3, .int .u64 s.y0, .int .u64 s.y1, .int .u64 s.y2, .int .u64 s.y3, .bool s.inf, .int .u64 s.z0, .int .u64 s.z1, .int .u64 s.z2, .int .u64 s.z3]

/-- A request that may be known. -/
def okReq (id : Int) (m : ByteArray) : Prop := 1 ≤ id ∧ id ≤ 1099511627776 ∧ m.size ≤ 4096
instance (id : Int) (m : ByteArray) : Decidable (okReq id m) := by unfold okReq; infer_instance

theorem not_okReq {id : Int} {m : ByteArray} (h : ¬ okReq id m) : id < 1 ∨ (1 ≤ id ∧ 1099511627776 < id) ∨ (1 ≤ id ∧ id ≤ 1099511627776 ∧ 4096 < (m.size : Int)) := by
  unfold okReq at h; omega

set_option maxRecDepth 100000 in
set_option maxHeartbeats 1000000 in
theorem submit_bad (p : Option Addr) (id : Int) (m : ByteArray) (w : World) (hbad : ¬ okReq id m) :
    Calls Try.prog 14 #[.pointer p, .agg #[.int .i64 id, .string m]] w fun e w' => e = .returned (.tuple #[.int .i64 3, .agg #[.int .u64 0, .int .u64 0, .int .u64 0, .int .u64 0, .int .u64 0, .int .u64 0, .int .u64 0, .int .u64 0, .bool false, .int .u64 0, .int .u64 0, .int .u64 0, .int .u64 0]]) ∧ Chg [] w w' := by
  rcases not_okReq hbad with h1 | ⟨h1, h2⟩ | ⟨h1, h2, h3⟩
  all_goals
    clear hbad
    go_enter Try.func14, Try.ntmps14
    go_wp2_with fail
    refine bodyPost_ret (v := .tuple #[.int .i64 3, .agg #[.int .u64 0, .int .u64 0, .int .u64 0, .int .u64 0, .int .u64 0, .int .u64 0, .int .u64 0, .int .u64 0, .bool false, .int .u64 0, .int .u64 0, .int .u64 0, .int .u64 0]]) (by simp [results, Try.results14, go_sem]) rfl ⟨rfl, ?_⟩
    exact ((Chg.refl _ _).alloc _).alloc _

set_option maxRecDepth 100000 in
set_option maxHeartbeats 1000000 in
theorem submit_nil (id : Int) (m : ByteArray) (w : World) (hok : okReq id m) :
    Calls Try.prog 14 #[.pointer none, .agg #[.int .i64 id, .string m]] w fun e w' => e = .returned (.tuple #[.int .i64 2, .agg #[.int .u64 0, .int .u64 0, .int .u64 0, .int .u64 0, .int .u64 0, .int .u64 0, .int .u64 0, .int .u64 0, .bool false, .int .u64 0, .int .u64 0, .int .u64 0, .int .u64 0]]) ∧ Chg [] w w' := by
  obtain ⟨h1, h2, h3⟩ := hok
  have h4 : (m.size : Int) ≤ 4096 := by omega
  go_enter Try.func14, Try.ntmps14
  go_wp2_with fail
  refine bodyPost_ret (v := .tuple #[.int .i64 2, .agg #[.int .u64 0, .int .u64 0, .int .u64 0, .int .u64 0, .int .u64 0, .int .u64 0, .int .u64 0, .int .u64 0, .bool false, .int .u64 0, .int .u64 0, .int .u64 0, .int .u64 0]]) (by simp [results, Try.results14, go_sem]) rfl ⟨rfl, ?_⟩
  exact ((Chg.refl _ _).alloc _).alloc _

set_option maxRecDepth 100000 in
theorem get_nil (id : Int) (w : World) :
    Calls Try.prog 37 #[.pointer none, .int .i64 id] w fun e w' => e = .returned (.tuple #[.agg #[.int .i64 0, .string ⟨#[]⟩], .bool false]) ∧ Chg [] w w' := by
  go_enter Try.func37, Try.ntmps37
  go_wp2_with fail
  refine bodyPost_ret (v := .tuple #[.agg #[.int .i64 0, .string ⟨#[]⟩], .bool false]) (by simp [results, Try.results37, go_sem]) rfl ⟨rfl, ?_⟩
  exact (Chg.refl _ _).alloc _

theorem count_nil (w : World) : Calls Try.prog 15 #[.pointer none] w fun e w' => e = .returned (.tuple #[.int .i64 0, .int .i64 0]) ∧ w' = w := by
  go_enter Try.func15, Try.ntmps15
  go_wp2_with fail
  exact bodyPost_ret (v := .tuple #[.int .i64 0, .int .i64 0]) (by simp [results, Try.results15, go_sem]) rfl ⟨rfl, rfl⟩

theorem waiting_nil (w : World) : Calls Try.prog 17 #[.pointer none] w fun e w' => e = .returned (.slice none 0 0) ∧ w' = w := by
  go_enter Try.func17, Try.ntmps17
  go_wp2_with fail
  go_ret
  exact ⟨rfl, rfl⟩

theorem finish_nil (id : Int) (s : Sg) (w : World) : Calls Try.prog 16 #[.pointer none, .int .i64 id, .agg #[.int .u64 s.x0, .int .u64 s.x1, .int .u64 s.x2, .int .u64 s.x3, .int .u64 s.y0, .int .u64 s.y1, .int .u64 s.y2, .int .u64 s.y3, .bool s.inf, .int .u64 s.z0, .int .u64 s.z1, .int .u64 s.z2, .int .u64 s.z3]] w fun e w' => e = .returned (.int .i64 6) ∧ Chg [] w w' := by
  go_enter Try.func16, Try.ntmps16
  go_wp2_with fail
  go_ret
  exact ⟨rfl, (Chg.refl _ _).alloc _⟩

end Go.Proofs.Ytgiackgdceanhaa
