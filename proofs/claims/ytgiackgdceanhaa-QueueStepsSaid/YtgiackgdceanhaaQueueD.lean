/- The walks of package queue: the queue's block, and what Submit answers. -/
import Derived.Test.YtgiackgdceanhaaQueueC
import Derived.Deep.RegionWith
import Derived.Laws.Strings
namespace Go.Proofs.Ytgiackgdceanhaa
set_option linter.unusedVariables false
set_option linter.unusedSimpArgs false
open Go.RowKit

/-- What is known of a request, and the block that holds it. -/
structure Ent where
  id : Int
  m : ByteArray
  done : Bool
  s : Sg
  b : Nat

def waits (l : List Ent) : List Int := (l.filter (fun e => !e.done)).map Ent.id
def keys (l : List Ent) : List (Int × Value) := l.map fun e => (e.id, .pointer (some ⟨e.b, 0, none⟩))

structure QN (w : World) (base q r : Nat) (v : Value) (l : List Ent) : Prop where
  hq : w.heap[q]? = some (.cells #[.map (some r), v] 89 (0, 0))
  hm : IMap w r (keys l)
  hk : ∀ e ∈ l, w.heap[e.b]? = some (.cells #[.string e.m, .bool e.done, .int .u64 e.s.x0, .int .u64 e.s.x1, .int .u64 e.s.x2, .int .u64 e.s.x3, .int .u64 e.s.y0, .int .u64 e.s.y1, .int .u64 e.s.y2, .int .u64 e.s.y3, .bool e.s.inf, .int .u64 e.s.z0, .int .u64 e.s.z1, .int .u64 e.s.z2, .int .u64 e.s.z3] 93 (0, 0))
  hn : (l.map Ent.id).Nodup
  hb : (l.map Ent.b).Nodup
  hv : w.ownsRow base 3 1 v (waits l).length (ints (waits l))
  h8 : (waits l).length ≤ 8
  hbase : base ≤ q ∧ base ≤ r ∧ ∀ e ∈ l, base ≤ e.b

theorem look_keys {l : List Ent} {e : Ent} (hn : (l.map Ent.id).Nodup) (he : e ∈ l) : look (keys l) e.id = some (.pointer (some ⟨e.b, 0, none⟩)) := by
  induction l with
  | nil => cases he
  | cons x l ih =>
    simp only [List.map_cons, List.nodup_cons] at hn
    simp only [List.mem_cons] at he
    unfold look keys
    simp only [List.map_cons, List.find?_cons]
    by_cases hx : x.id = e.id
    · have : e = x := by
        rcases he with he | he
        · exact he
        · exact absurd (List.mem_map.2 ⟨e, he, hx.symm⟩) hn.1
      subst this; simp
    · have hb : (x.id == e.id) = false := by simpa using hx
      simp only [hb]
      rcases he with he | he
      · subst he; exact absurd rfl hx
      · exact ih hn.2 he

theorem look_keys_none {l : List Ent} {id : Int} (h : ∀ e ∈ l, e.id ≠ id) : look (keys l) id = none := by
  refine look_none ?_
  intro p hp
  simp only [keys, List.mem_map] at hp
  obtain ⟨e, he, rfl⟩ := hp
  exact h e he

theorem str_ne {a b : ByteArray} (h : a ≠ b) : (a.toList == b.toList) = false := by
  rw [ByteArray.toList_eq, ByteArray.toList_eq]
  simp
  intro e
  apply h
  cases a; cases b
  simpa using e

def knCode (e : Ent) (m : ByteArray) : Int := if e.m = m then (if e.done = true then 4 else 1) else 3
def knSig (e : Ent) (m : ByteArray) : Sg := if e.m = m then (if e.done = true then e.s else .zero) else .zero

set_option maxRecDepth 100000 in
set_option maxHeartbeats 2000000 in
theorem submit_known (base q r : Nat) (v : Value) (l : List Ent) (e0 : Ent) (m : ByteArray) (w : World) (hQ : QN w base q r v l) (he : e0 ∈ l) (hok : okReq e0.id m) :
    Calls Try.prog 14 #[.pointer (some ⟨q, 0, none⟩), .agg #[.int .i64 e0.id, .string m]] w fun e w' =>
      e = .returned (.tuple #[.int .i64 (knCode e0 m), .agg (knSig e0 m).arr]) ∧ Chg [] w w' := by
  obtain ⟨h1, h2, h3⟩ := hok
  have h4 : (m.size : Int) ≤ 4096 := by omega
  have hl := look_keys hQ.hn he
  have c0 : w.cell? ⟨q, 0, none⟩ = some (.map (some r)) := cell_of_has hQ.hq 0
  have hqb := lt_of_has hQ.hq
  have hb := hQ.hk e0 he
  have hbb := lt_of_has hb
  have b0 : w.cell? ⟨e0.b, 0, none⟩ = some (.string e0.m) := cell_of_has hb 0
  have b1 : w.cell? ⟨e0.b, 1, none⟩ = some (.bool e0.done) := cell_of_has hb 1
  have b2 : w.cell? ⟨e0.b, 2, none⟩ = some (.int .u64 e0.s.x0) := cell_of_has hb 2
  have b3 : w.cell? ⟨e0.b, 3, none⟩ = some (.int .u64 e0.s.x1) := cell_of_has hb 3
  have b4 : w.cell? ⟨e0.b, 4, none⟩ = some (.int .u64 e0.s.x2) := cell_of_has hb 4
  have b5 : w.cell? ⟨e0.b, 5, none⟩ = some (.int .u64 e0.s.x3) := cell_of_has hb 5
  have b6 : w.cell? ⟨e0.b, 6, none⟩ = some (.int .u64 e0.s.y0) := cell_of_has hb 6
  have b7 : w.cell? ⟨e0.b, 7, none⟩ = some (.int .u64 e0.s.y1) := cell_of_has hb 7
  have b8 : w.cell? ⟨e0.b, 8, none⟩ = some (.int .u64 e0.s.y2) := cell_of_has hb 8
  have b9 : w.cell? ⟨e0.b, 9, none⟩ = some (.int .u64 e0.s.y3) := cell_of_has hb 9
  have b10 : w.cell? ⟨e0.b, 10, none⟩ = some (.bool e0.s.inf) := cell_of_has hb 10
  have b11 : w.cell? ⟨e0.b, 11, none⟩ = some (.int .u64 e0.s.z0) := cell_of_has hb 11
  have b12 : w.cell? ⟨e0.b, 12, none⟩ = some (.int .u64 e0.s.z1) := cell_of_has hb 12
  have b13 : w.cell? ⟨e0.b, 13, none⟩ = some (.int .u64 e0.s.z2) := cell_of_has hb 13
  have b14 : w.cell? ⟨e0.b, 14, none⟩ = some (.int .u64 e0.s.z3) := cell_of_has hb 14
  have hlk : ∀ w1 : World, IMap w1 r (keys l) → (Instr.lookup 87 (.map (some r)) (.int .i64 e0.id) true).run Try.prog w1 = .ok (.tuple #[.pointer (some ⟨e0.b, 0, none⟩), .bool true]) w1 := by
    intro w1 hm
    have := run_lookup_ok (P := Try.prog) (T := 87) (K := 3) (E := 90) (z := .pointer none) Try.underlying87 Try.underlying3 (by kernel_rfl) hm e0.id
    rw [hl] at this
    exact this
  have HM := Lib.hid hQ.hm
  have HL := Lib.hid hlk
  clear hQ he hl hlk hb
  have hlr := fun n => HL.out _ ((HM.out.chg (((Chg.refl [] w).alloc (.cells #[.int .i64 e0.id, .string m] 36)).alloc (.cells #[.int .u64 0, .int .u64 0, .int .u64 0, .int .u64 0, .int .u64 0, .int .u64 0, .int .u64 0, .int .u64 0, .bool false, .int .u64 0, .int .u64 0, .int .u64 0, .int .u64 0] 32)) (by simp)).drewN n)
  have HLR := Lib.hid hlr
  clear hlr
  by_cases hme : e0.m = m
  · cases hdn : e0.done
    · rw [hdn] at b1
      have HDN := Lib.hid hdn
      clear hdn
      obtain rfl := hme.symm
      clear hme
      go_enter Try.func14, Try.ntmps14
      go_wp2_with fail
      have hl1 := HLR.out
      go_quiet (fail)
      go_wp2_with fail
      go_quiet (fail)
      go_wp2_with fail
      refine bodyPost_ret (v := .tuple #[.int .i64 1, .agg #[.int .u64 0, .int .u64 0, .int .u64 0, .int .u64 0, .int .u64 0, .int .u64 0, .int .u64 0, .int .u64 0, .bool false, .int .u64 0, .int .u64 0, .int .u64 0, .int .u64 0]]) (by simp [results, Try.results14, go_sem]) rfl ⟨?_, ?_⟩
      · simp [knCode, knSig, HDN.out, Sg.arr, Sg.zero]
      · repeat (with_reducible first | refine Chg.setCell ?_ ?_ _ | apply Chg.drewN | apply Chg.alloc | exact Chg.refl _ _)
        all_goals exact Or.inr (Nat.le_succ _)
    · rw [hdn] at b1
      have HDN := Lib.hid hdn
      clear hdn
      obtain rfl := hme.symm
      clear hme
      go_enter Try.func14, Try.ntmps14
      go_wp2_with fail
      have hl1 := HLR.out
      go_quiet (fail)
      go_wp2_with fail
      go_quiet (fail)
      go_wp2_with fail
      clear hl1
      go_region
      all_goals
        go_wp2_with fail
        refine bodyPost_ret (v := .tuple #[.int .i64 4, .agg #[.int .u64 e0.s.x0, .int .u64 e0.s.x1, .int .u64 e0.s.x2, .int .u64 e0.s.x3, .int .u64 e0.s.y0, .int .u64 e0.s.y1, .int .u64 e0.s.y2, .int .u64 e0.s.y3, .bool e0.s.inf, .int .u64 e0.s.z0, .int .u64 e0.s.z1, .int .u64 e0.s.z2, .int .u64 e0.s.z3]]) (by simp [results, Try.results14, go_sem]) rfl ⟨?_, ?_⟩
        · simp [knCode, knSig, HDN.out, Sg.arr, Sg.zero]
        · repeat (with_reducible first | refine Chg.setCell ?_ ?_ _ | apply Chg.drewN | apply Chg.alloc | exact Chg.refl _ _)
          all_goals exact Or.inr (Nat.le_succ _)
  · have HME := Lib.hid hme
    clear hme
    go_enter Try.func14, Try.ntmps14
    go_wp2_with fail
    have hl1 := HLR.out
    go_quiet (fail)
    go_wp2_with fail
    have hme := str_ne HME.out
    go_quiet (fail)
    go_wp2_with fail
    refine bodyPost_ret (v := .tuple #[.int .i64 3, .agg #[.int .u64 0, .int .u64 0, .int .u64 0, .int .u64 0, .int .u64 0, .int .u64 0, .int .u64 0, .int .u64 0, .bool false, .int .u64 0, .int .u64 0, .int .u64 0, .int .u64 0]]) (by simp [results, Try.results14, go_sem]) rfl ⟨?_, ?_⟩
    · simp [knCode, knSig, HME.out, Sg.arr, Sg.zero]
    · repeat (with_reducible first | refine Chg.setCell ?_ ?_ _ | apply Chg.drewN | apply Chg.alloc | exact Chg.refl _ _)
      all_goals exact Or.inr (Nat.le_succ _)

end Go.Proofs.Ytgiackgdceanhaa
