/- The walks of package queue: Submit of a request that is not known. -/
import Derived.Test.YtgiackgdceanhaaQueueD
import Derived.Deep.RegionLaw
namespace Go.Proofs.Ytgiackgdceanhaa
set_option linter.unusedVariables false
set_option linter.unusedSimpArgs false
open Go.RowKit

theorem own_shape {w : World} {base : Nat} {e : TypeId} {size : Nat} {v : Value} {n : Nat} {xs : List Value} (h : w.ownsRow base e size v n xs) : ∃ a cap, v = .slice a n cap := by
  rcases h.2 with ⟨rfl, h0⟩ | ⟨g, cap, cur, rfl, _⟩
  · exact ⟨none, 0, by rw [h0]⟩
  · exact ⟨_, _, rfl⟩

set_option maxRecDepth 100000 in
set_option maxHeartbeats 2000000 in
theorem submit_full (base q r : Nat) (v : Value) (l : List Ent) (id : Int) (m : ByteArray) (w : World) (hQ : QN w base q r v l) (hno : ∀ e ∈ l, e.id ≠ id) (hok : okReq id m) (h8 : (waits l).length = 8) :
    Calls Try.prog 14 #[.pointer (some ⟨q, 0, none⟩), .agg #[.int .i64 id, .string m]] w fun e w' =>
      e = .returned (.tuple #[.int .i64 2, .agg #[.int .u64 0, .int .u64 0, .int .u64 0, .int .u64 0, .int .u64 0, .int .u64 0, .int .u64 0, .int .u64 0, .bool false, .int .u64 0, .int .u64 0, .int .u64 0, .int .u64 0]]) ∧ Chg [] w w' := by
  obtain ⟨h1, h2, h3⟩ := hok
  have h4 : (m.size : Int) ≤ 4096 := by omega
  have hl := look_keys_none hno
  obtain ⟨a, cap, rfl⟩ := own_shape hQ.hv
  have c0 : w.cell? ⟨q, 0, none⟩ = some (.map (some r)) := cell_of_has hQ.hq 0
  have c1 : w.cell? ⟨q, 1, none⟩ = some (.slice a (waits l).length cap) := cell_of_has hQ.hq 1
  rw [h8] at c1
  have hqb := lt_of_has hQ.hq
  have hlk : ∀ w1 : World, IMap w1 r (keys l) → (Instr.lookup 87 (.map (some r)) (.int .i64 id) true).run Try.prog w1 = .ok (.tuple #[.pointer none, .bool false]) w1 := by
    intro w1 hm
    have := run_lookup_ok (P := Try.prog) (T := 87) (K := 3) (E := 90) (z := .pointer none) Try.underlying87 Try.underlying3 (by kernel_rfl) hm id
    rw [hl] at this
    exact this
  have hlr := fun n => hlk _ ((hQ.hm.chg (((Chg.refl [] w).alloc (.cells #[.int .i64 id, .string m] 36)).alloc (.cells #[.int .u64 0, .int .u64 0, .int .u64 0, .int .u64 0, .int .u64 0, .int .u64 0, .int .u64 0, .int .u64 0, .bool false, .int .u64 0, .int .u64 0, .int .u64 0, .int .u64 0] 32)) (by simp)).drewN n)
  have HLR := Lib.hid hlr
  clear hlr hlk hl hQ hno h8
  go_enter Try.func14, Try.ntmps14
  go_wp2_with fail
  have hl1 := HLR.out
  go_quiet (fail)
  clear hl1
  go_wp2_with fail
  refine bodyPost_ret (v := .tuple #[.int .i64 2, .agg #[.int .u64 0, .int .u64 0, .int .u64 0, .int .u64 0, .int .u64 0, .int .u64 0, .int .u64 0, .int .u64 0, .bool false, .int .u64 0, .int .u64 0, .int .u64 0, .int .u64 0]]) (by simp [results, Try.results14, go_sem]) rfl ⟨rfl, ?_⟩
  repeat (with_reducible first | refine Chg.setCell ?_ ?_ _ | apply Chg.drewN | apply Chg.alloc | exact Chg.refl _ _)
  all_goals exact Or.inr (Nat.le_succ _)

theorem QN.chg {S : List Nat} {w w' : World} {base q r : Nat} {v : Value} {l : List Ent} (h : QN w base q r v l) (hc : Chg S w w') (hq : q ∉ S) (hr : r ∉ S) (hb : ∀ e ∈ l, e.b ∉ S)
    (hv : ∀ b, v.ownBlock = some b → b ∉ S) : QN w' base q r v l :=
  ⟨hc.has h.hq hq, h.hm.chg hc hr, fun e he => hc.has (h.hk e he) (hb e he), h.hn, h.hb, own_chg h.hv hc hv, h.h8, h.hbase⟩

theorem waits_snoc (l : List Ent) (e : Ent) (h : e.done = false) : waits (l ++ [e]) = waits l ++ [e.id] := by
  simp [waits, List.filter_append, h]

/-- 'append(row of the call's own, x)' as one step of a region that draws. -/
theorem step_push {P : Program} {ops : Array Oper} {w : World} {o : Oper} {a : Act} {K : Act → World → Prop} {Q : Exit → Act → World → Prop} {E0 : Prop} (hgd : o.guard = none) (s x : Operand) (t : TypeId)
    (ho : o.op = .call { callee := .builtin .append, args := #[s, x], argTypes := #[t, t] }) {e : TypeId} {z : Value} {size bytes : Nat} (E : ElemOK P t e z size bytes)
    (base : Nat) {v : Value} {n : Nat} {xs : List Value} (hs : a.eval s = v) (hown : w.ownsRow base e size v n xs) (g : Nat) (cs : Array Value)
    (hx : a.eval x = .slice (some ⟨g, 0, none⟩) 1 1) (hcs : cs.size = size) (hg : w.heap[g]? = some (.cells cs e (0, 0))) (h1 : ∀ u ∈ cs.toList, u.oneCell' = true)
    (hb : (n + 1) * bytes ≤ 140737488355328) (h63 : n + 1 ≤ 9223372036854775807) (hbase : base ≤ w.heap.size)
    (h : ∀ v' w', w'.ownsRow base e size v' (n + 1) (xs ++ cs.toList) → w.grownBy w' v.ownBlock → (v'.ownBlock = v.ownBlock ∨ v'.ownBlock = some w.heap.size) → K (a.put o.dst v') w') :
    if Region.wanted o (yielded ops a.tmps) = true then Oper.wp P o a w K Q else E0 := by
  rw [if_pos (by simp [Region.wanted, hgd])]
  exact wp_push s x t ho E base hs hown g cs hx hcs hg h1 hb h63 hbase h

theorem own_ne_map {w : World} {base : Nat} {e : TypeId} {size : Nat} {v : Value} {n : Nat} {xs : List Value} (h : w.ownsRow base e size v n xs) {r : Nat} {l : List (Int × Value)}
    (hb : IMap w r l) : some r ≠ v.ownBlock := by
  rcases h.2 with ⟨rfl, _⟩ | ⟨g, cap, cur, rfl, _, hg, _⟩
  · simp [Value.ownBlock]
  · intro he
    have : r = g := by simpa [Value.ownBlock] using he
    exact hb.ne hg this

set_option maxRecDepth 100000 in
set_option maxHeartbeats 2000000 in
theorem submit_new (base q r : Nat) (v : Value) (l : List Ent) (id : Int) (m : ByteArray) (w : World) (hQ : QN w base q r v l) (hno : ∀ e ∈ l, e.id ≠ id) (hok : okReq id m) (h8 : (waits l).length ≠ 8) :
    Calls Try.prog 14 #[.pointer (some ⟨q, 0, none⟩), .agg #[.int .i64 id, .string m]] w fun e w' =>
      e = .returned (.tuple #[.int .i64 1, .agg #[.int .u64 0, .int .u64 0, .int .u64 0, .int .u64 0, .int .u64 0, .int .u64 0, .int .u64 0, .int .u64 0, .bool false, .int .u64 0, .int .u64 0, .int .u64 0, .int .u64 0]]) ∧ ∃ v' b, w.heap.size ≤ b ∧ QN w' base q r v' (l ++ [⟨id, m, false, .zero, b⟩]) ∧ (v'.ownBlock = v.ownBlock ∨ ∃ b, v'.ownBlock = some b ∧ w.heap.size ≤ b) ∧ Chg (q :: r :: v.ownBlock.toList) w w' := by
  obtain ⟨h1, h2, h3⟩ := hok
  have h4 : (m.size : Int) ≤ 4096 := by omega
  have hl := look_keys_none hno
  obtain ⟨a, cap, rfl⟩ := own_shape hQ.hv
  generalize hn : (waits l).length = n at *
  have hn8 : n < 8 := by have := hQ.h8; omega
  have e8 : ((n : Int) == 8) = false := by simpa using (by omega : ¬ (n : Int) = 8)
  have c0 : w.cell? ⟨q, 0, none⟩ = some (.map (some r)) := cell_of_has hQ.hq 0
  have c1 : w.cell? ⟨q, 1, none⟩ = some (.slice a n cap) := cell_of_has hQ.hq 1
  have hqb := lt_of_has hQ.hq
  have hlk : ∀ w1 : World, IMap w1 r (keys l) → (Instr.lookup 87 (.map (some r)) (.int .i64 id) true).run Try.prog w1 = .ok (.tuple #[.pointer none, .bool false]) w1 := by
    intro w1 hm
    have := run_lookup_ok (P := Try.prog) (T := 87) (K := 3) (E := 90) (z := .pointer none) Try.underlying87 Try.underlying3 (by kernel_rfl) hm id
    rw [hl] at this
    exact this
  have hlr := fun n => hlk _ ((hQ.hm.chg (((Chg.refl [] w).alloc (.cells #[.int .i64 id, .string m] 36)).alloc (.cells #[.int .u64 0, .int .u64 0, .int .u64 0, .int .u64 0, .int .u64 0, .int .u64 0, .int .u64 0, .int .u64 0, .bool false, .int .u64 0, .int .u64 0, .int .u64 0, .int .u64 0] 32)) (by simp)).drewN n)
  have HLR := Lib.hid hlr
  have HQ := Lib.hid hQ; have HNO := Lib.hid hno; have HL := Lib.hid hl; have HN := Lib.hid hn
  clear hlr hlk hl hQ hno h8 hn
  go_enter Try.func14, Try.ntmps14
  go_wp2_with fail
  have hl1 := HLR.out
  go_quiet (fail)
  clear hl1
  go_wp2_with fail
  have hQ := HQ.out
  generalize hW0 : ((w.alloc (.cells #[.int .i64 id, .string m] 36)).alloc (.cells #[.int .u64 0, .int .u64 0, .int .u64 0, .int .u64 0, .int .u64 0, .int .u64 0, .int .u64 0, .int .u64 0, .bool false, .int .u64 0, .int .u64 0, .int .u64 0, .int .u64 0] 32)).drewN nq = W0
  have hC0 : Chg [] w W0 := by rw [← hW0]; exact (((Chg.refl _ _).alloc _).alloc _).drewN _
  have hs0 : W0.heap.size = w.heap.size + 1 + 1 := by rw [← hW0]; simp
  have hA0 : W0.heap[w.heap.size]? = some (.cells #[.int .i64 id, .string m] 36 (0, 0)) := by rw [← hW0]; exact has_alloc (has_alloc_new _ _)
  have hB0 : W0.heap[w.heap.size + 1]? = some (.cells #[.int .u64 0, .int .u64 0, .int .u64 0, .int .u64 0, .int .u64 0, .int .u64 0, .int .u64 0, .int .u64 0, .bool false, .int .u64 0, .int .u64 0, .int .u64 0, .int .u64 0] 32 (0, 0)) := by rw [← hW0]; exact has_alloc_at (by simp)
  have HW0 := Lib.hid hW0
  clear hW0
  have c0' : W0.cell? ⟨q, 0, none⟩ = some (.map (some r)) := hC0.cell c0 (by simp)
  have c1' : W0.cell? ⟨q, 1, none⟩ = some (.slice a n cap) := hC0.cell c1 (by simp)
  have a0' : W0.cell? ⟨w.heap.size, 0, none⟩ = some (.int .i64 id) := cell_of_has hA0 0
  have a1' : W0.cell? ⟨w.heap.size, 1, none⟩ = some (.string m) := cell_of_has hA0 1
  obtain ⟨W2, hrun, hM2, hC2, hs2⟩ := run_mapput_new (P := Try.prog) (T := 87) (K := 3) (E := 90) (w := (W0.alloc (.cells #[.string m, .bool false, .int .u64 0, .int .u64 0, .int .u64 0, .int .u64 0, .int .u64 0, .int .u64 0, .int .u64 0, .int .u64 0, .bool false, .int .u64 0, .int .u64 0, .int .u64 0, .int .u64 0] 93)).drew) Try.underlying87 Try.underlying3
    (hQ.hm.chg (hC0.alloc _).drew (by simp)) id HL.out (.pointer (some ⟨w.heap.size + 1 + 1, 0, none⟩))
  have HM2 := Lib.hid hM2; have HS2 := Lib.hid hs2
  clear hM2 hs2 hQ
  have n1 : ¬ q = w.heap.size + 1 + 1 := by omega
  have n2 : ¬ w.heap.size = w.heap.size + 1 + 1 := by omega
  have hqW : q < w.heap.size + 1 + 1 := by omega
  have hnW : w.heap.size < w.heap.size + 1 + 1 := by omega
  go_region
  clear hrun
  have hQ := HQ.out
  have hCW : Chg [r] w W2 := ((hC0.alloc _).drew.mono (by simp)).trans hC2
  have hrq : r ≠ q := hQ.hm.ne hQ.hq
  have hrA : r < w.heap.size := hQ.hm.lt
  have hbq : base ≤ q := hQ.hbase.1
  have hown := own_chg hQ.hv hCW (by
    intro b hb
    simp only [List.mem_singleton]
    rintro rfl
    exact own_ne_map hQ.hv hQ.hm hb.symm)
  rw [HN.out] at hown
  have hq2 : W2.heap[q]? = some (.cells #[.map (some r), .slice a n cap] 89 (0, 0)) := hCW.has hQ.hq (by simpa using hrq.symm)
  have hA2 : W2.heap[w.heap.size]? = some (.cells #[.int .i64 id, .string m] 36 (0, 0)) := hC2.has (has_alloc hA0) (by simp; omega)
  have hB2 : W2.heap[w.heap.size + 1]? = some (.cells #[.int .u64 0, .int .u64 0, .int .u64 0, .int .u64 0, .int .u64 0, .int .u64 0, .int .u64 0, .int .u64 0, .bool false, .int .u64 0, .int .u64 0, .int .u64 0, .int .u64 0] 32 (0, 0)) := hC2.has (has_alloc hB0) (by simp; omega)
  have hK2 : W2.heap[w.heap.size + 1 + 1]? = some (.cells #[.string m, .bool false, .int .u64 0, .int .u64 0, .int .u64 0, .int .u64 0, .int .u64 0, .int .u64 0, .int .u64 0, .int .u64 0, .bool false, .int .u64 0, .int .u64 0, .int .u64 0, .int .u64 0] 93 (0, 0)) := hC2.has (has_alloc_at hs0) (by simp; omega)
  have hsz : W2.heap.size = w.heap.size + 1 + 1 + 1 := by rw [HS2.out]; simp [hs0]
  have d1 : W2.cell? ⟨q, 1, none⟩ = some (.slice a n cap) := cell_of_has hq2 1
  have d2 : W2.cell? ⟨w.heap.size, 0, none⟩ = some (.int .i64 id) := cell_of_has hA2 0
  have HOWN := Lib.hid hown; have HQ2 := Lib.hid hq2; have HA2 := Lib.hid hA2; have HB2 := Lib.hid hB2; have HK2 := Lib.hid hK2; have HCW := Lib.hid hCW; have HC2 := Lib.hid hC2
  clear hown hq2 hA2 hB2 hK2 hCW hC2 hQ c0 c1 c0' c1' a0' a1' hC0 hA0 hB0 HLR
  have n3 : ¬ q = w.heap.size + 1 + 1 + 1 := by omega
  have n4 : ¬ w.heap.size = w.heap.size + 1 + 1 + 1 := by omega
  have hqX : q < w.heap.size + 1 + 1 + 1 := by omega
  have hnX : w.heap.size < w.heap.size + 1 + 1 + 1 := by omega
  go_wp2_with fail
  go_region_law? (go_loud (refine step_push rfl (.tmp 79) (.tmp 82) 22 rfl elem_intS base (by simp [Act.eval, Act.put]) (own_chg HOWN.out (((Chg.refl [] _).alloc _).drew) (by simp)) (w.heap.size + 1 + 1 + 1) #[.int .i64 id] (by simp [Act.eval, Act.put]) rfl (has_alloc_at hsz) (by simp [Value.oneCell']) (by omega) (by omega) (by simp; omega) ?_; intro v3 w3 hown3 hgrow3 hat3; obtain ⟨a3, cap3, rfl⟩ := own_shape hown3; have hq3 := grown_has hgrow3 (has_alloc HQ2.out) (own_ne HOWN.out HQ2.out (by decide)); have e1 := cell_of_has hq3 1; have z1 := frozen_of_has hq3 1; simp only [List.getElem?_toArray, List.getElem?_cons_succ, List.getElem?_cons_zero] at e1; have HQ3 := Lib.hid hq3; have HOWN3 := Lib.hid hown3; have HG3 := Lib.hid hgrow3; have HAT3 := Lib.hid hat3; clear hq3 hown3 hgrow3 hat3))
  all_goals
    have hB3 := grown_has HG3.out (has_alloc HB2.out) (own_ne HOWN.out HB2.out (by decide))
    have hB3c0 : w3.cell? ⟨w.heap.size + 1, 0, none⟩ = some (.int .u64 0) := cell_of_has hB3 0; have hB3z0 : w3.frozen? ⟨w.heap.size + 1, 0, none⟩ = false := frozen_of_has hB3 0; have hB3c1 : w3.cell? ⟨w.heap.size + 1, 1, none⟩ = some (.int .u64 0) := cell_of_has hB3 1; have hB3z1 : w3.frozen? ⟨w.heap.size + 1, 1, none⟩ = false := frozen_of_has hB3 1; have hB3c2 : w3.cell? ⟨w.heap.size + 1, 2, none⟩ = some (.int .u64 0) := cell_of_has hB3 2; have hB3z2 : w3.frozen? ⟨w.heap.size + 1, 2, none⟩ = false := frozen_of_has hB3 2; have hB3c3 : w3.cell? ⟨w.heap.size + 1, 3, none⟩ = some (.int .u64 0) := cell_of_has hB3 3; have hB3z3 : w3.frozen? ⟨w.heap.size + 1, 3, none⟩ = false := frozen_of_has hB3 3; have hB3c4 : w3.cell? ⟨w.heap.size + 1, 4, none⟩ = some (.int .u64 0) := cell_of_has hB3 4; have hB3z4 : w3.frozen? ⟨w.heap.size + 1, 4, none⟩ = false := frozen_of_has hB3 4; have hB3c5 : w3.cell? ⟨w.heap.size + 1, 5, none⟩ = some (.int .u64 0) := cell_of_has hB3 5; have hB3z5 : w3.frozen? ⟨w.heap.size + 1, 5, none⟩ = false := frozen_of_has hB3 5; have hB3c6 : w3.cell? ⟨w.heap.size + 1, 6, none⟩ = some (.int .u64 0) := cell_of_has hB3 6; have hB3z6 : w3.frozen? ⟨w.heap.size + 1, 6, none⟩ = false := frozen_of_has hB3 6; have hB3c7 : w3.cell? ⟨w.heap.size + 1, 7, none⟩ = some (.int .u64 0) := cell_of_has hB3 7; have hB3z7 : w3.frozen? ⟨w.heap.size + 1, 7, none⟩ = false := frozen_of_has hB3 7; have hB3c8 : w3.cell? ⟨w.heap.size + 1, 8, none⟩ = some (.bool false) := cell_of_has hB3 8; have hB3z8 : w3.frozen? ⟨w.heap.size + 1, 8, none⟩ = false := frozen_of_has hB3 8; have hB3c9 : w3.cell? ⟨w.heap.size + 1, 9, none⟩ = some (.int .u64 0) := cell_of_has hB3 9; have hB3z9 : w3.frozen? ⟨w.heap.size + 1, 9, none⟩ = false := frozen_of_has hB3 9; have hB3c10 : w3.cell? ⟨w.heap.size + 1, 10, none⟩ = some (.int .u64 0) := cell_of_has hB3 10; have hB3z10 : w3.frozen? ⟨w.heap.size + 1, 10, none⟩ = false := frozen_of_has hB3 10; have hB3c11 : w3.cell? ⟨w.heap.size + 1, 11, none⟩ = some (.int .u64 0) := cell_of_has hB3 11; have hB3z11 : w3.frozen? ⟨w.heap.size + 1, 11, none⟩ = false := frozen_of_has hB3 11; have hB3c12 : w3.cell? ⟨w.heap.size + 1, 12, none⟩ = some (.int .u64 0) := cell_of_has hB3 12; have hB3z12 : w3.frozen? ⟨w.heap.size + 1, 12, none⟩ = false := frozen_of_has hB3 12
    have n5 : ¬ w.heap.size + 1 = q := by omega
    have n6 : ¬ q = w.heap.size + 1 := by omega
    have HB3 := Lib.hid hB3
    clear hB3
    go_wp2_with fail
    refine bodyPost_ret (v := .tuple #[.int .i64 1, .agg #[.int .u64 0, .int .u64 0, .int .u64 0, .int .u64 0, .int .u64 0, .int .u64 0, .int .u64 0, .int .u64 0, .bool false, .int .u64 0, .int .u64 0, .int .u64 0, .int .u64 0]]) (by simp [results, Try.results14, go_sem, n5, n6, hB3c0, hB3c1, hB3c2, hB3c3, hB3c4, hB3c5, hB3c6, hB3c7, hB3c8, hB3c9, hB3c10, hB3c11, hB3c12]) rfl ⟨rfl, .slice a3 (n + 1) cap3, w.heap.size + 1 + 1, by omega, ?_, ?_, ?_⟩
    · have hQ := HQ.out
      have hCG : Chg (Value.slice a n cap).ownBlock.toList W2 w3 := Chg.grown ((Chg.refl _ W2).alloc _).drew HG3.out (by intro k hk; left; simp [hk])
      have hnr : r ∉ (Value.slice a n cap).ownBlock.toList := by
        have := own_ne_map hQ.hv hQ.hm
        intro hm
        apply this
        simpa using (Option.mem_toList.1 hm).symm
      have hM3 := HM2.out.chg hCG hnr
      have hS4 : Chg [q] w3 (w3.setCell ⟨q, 1, none⟩ (.slice a3 (n + 1) cap3)) := (Chg.refl [q] w3).setCell (Or.inl (by simp)) _
      have hC3 : Chg (q :: r :: (Value.slice a n cap).ownBlock.toList) w w3 := Chg.grown ((HCW.out.mono (by simp)).alloc _).drew HG3.out (by intro k hk; left; simp [hk])
      have hC4 := hC3.setCell (p := ⟨q, 1, none⟩) (Or.inl (by simp)) (.slice a3 (n + 1) cap3)
      have hK3 := grown_has HG3.out (has_alloc HK2.out) (own_ne HOWN.out HK2.out (by decide))
      have hlts : ∀ e ∈ l, e.b < w.heap.size := fun e he => lt_of_has (hQ.hk e he)
      have hqe : ∀ e ∈ l, e.b ≠ q := by
        intro e he heq
        have h1 := hQ.hk e he
        rw [heq, hQ.hq] at h1
        injection h1 with h1
        injection h1 with _ h2
        exact absurd h2 (by decide)
      have hws := waits_snoc l ⟨id, m, false, .zero, w.heap.size + 1 + 1⟩ rfl
      have hQ4 : QN (w3.setCell ⟨q, 1, none⟩ (.slice a3 (n + 1) cap3)) base q r (.slice a3 (n + 1) cap3) (l ++ [⟨id, m, false, .zero, w.heap.size + 1 + 1⟩]) := by
        refine ⟨by rw [has_set HQ3.out]; rfl, ?_, ?_, ?_, ?_, ?_, ?_, hQ.hbase.1, hQ.hbase.2.1, ?_⟩
        · have : keys (l ++ [⟨id, m, false, .zero, w.heap.size + 1 + 1⟩]) = keys l ++ [(id, .pointer (some ⟨w.heap.size + 1 + 1, 0, none⟩))] := by simp [keys]
          rw [this]
          exact hM3.chg hS4 (by simpa using hrq)
        · intro e he
          rcases List.mem_append.1 he with he | he
          · refine hC4.has (hQ.hk e he) ?_
            simp only [List.mem_cons, not_or]
            refine ⟨hqe e he, fun h => hQ.hm.ne (hQ.hk e he) h.symm, fun hm => ?_⟩
            exact own_ne hQ.hv (hQ.hk e he) (by decide) (Option.mem_toList.1 hm).symm
          · obtain rfl := List.mem_singleton.1 he
            exact has_far hK3 (by simp; omega) _
        · rw [List.map_append, List.nodup_append]
          refine ⟨hQ.hn, by simp, ?_⟩
          intro x hx y hy
          obtain ⟨e, he, rfl⟩ := List.mem_map.1 hx
          simp at hy
          subst hy
          exact HNO.out e he
        · rw [List.map_append, List.nodup_append]
          refine ⟨hQ.hb, by simp, ?_⟩
          intro x hx y hy
          obtain ⟨e, he, rfl⟩ := List.mem_map.1 hx
          simp at hy
          subst hy
          have := hlts e he
          omega
        · rw [hws]
          have hl3 : (waits l ++ [id]).length = n + 1 := by simp [HN.out]
          rw [hl3]
          have h3 := own_chg HOWN3.out hS4 (by
            intro b hb
            simp only [List.mem_singleton]
            rintro rfl
            exact own_ne HOWN3.out HQ3.out (by decide) hb.symm)
          simpa [ints] using h3
        · rw [hws]; simp [HN.out]; omega
        · intro e he
          rcases List.mem_append.1 he with he | he
          · exact hQ.hbase.2.2 e he
          · obtain rfl := List.mem_singleton.1 he
            show base ≤ w.heap.size + 1 + 1
            omega
      have hS9 := Chg.refl [w.heap.size + 1] (w3.setCell ⟨q, 1, none⟩ (.slice a3 (n + 1) cap3))
      refine hQ4.chg (S := [w.heap.size + 1]) ?_ ?_ ?_ ?_ ?_
      · repeat (with_reducible first | exact hS9 | refine Chg.setCell ?_ ?_ _ | apply Chg.drewN | apply Chg.alloc)
        all_goals exact Or.inl (List.mem_singleton.2 rfl)
      · simp; omega
      · simp; omega
      · intro e he
        simp only [List.mem_singleton]
        rcases List.mem_append.1 he with he | he
        · have := hlts e he; omega
        · obtain rfl := List.mem_singleton.1 he
          show ¬ w.heap.size + 1 + 1 = w.heap.size + 1
          omega
      · intro b hb
        simp only [List.mem_singleton]
        rintro rfl
        exact own_ne HOWN3.out HB3.out (by decide) hb.symm
    · rcases HAT3.out with hx | hx
      · exact Or.inl hx
      · exact Or.inr ⟨_, hx, by simp [hsz]; omega⟩
    · have hC3 : Chg (q :: r :: (Value.slice a n cap).ownBlock.toList) w w3 := Chg.grown ((HCW.out.mono (by simp)).alloc _).drew HG3.out (by intro k hk; left; simp [hk])
      repeat (with_reducible first | refine Chg.setCell ?_ ?_ _ | exact hC3 | apply Chg.drewN | apply Chg.alloc)
      all_goals first | exact Or.inr (Nat.le_succ _) | exact Or.inl (by simp)

end Go.Proofs.Ytgiackgdceanhaa
