/- Maps keyed by int whose block the walk knows: look-up, a new key, length. -/
import Derived.Test.YtgiackgdceanhaaBase
import Derived.Maps.OwnSet
namespace Go.Proofs.Ytgiackgdceanhaa
set_option linter.unusedVariables false
set_option linter.unusedSimpArgs false
open Go.RowKit

/-- Block r is a map that holds just these keys and values. -/
def IMap (w : World) (r : Nat) (l : List (Int × Value)) : Prop :=
  ∃ (es : Array MapEntry) (c : Nat), w.heap[r]? = some (.map es c) ∧ es.toList.map (fun e => (e.key, e.val)) = l.map (fun p => (Value.int .i64 p.1, p.2))

def look (l : List (Int × Value)) (k : Int) : Option Value := (l.find? (fun p => p.1 == k)).map (·.2)

theorem look_nil (k : Int) : look [] k = none := rfl
theorem look_snoc (l : List (Int × Value)) (a : Int) (v : Value) (k : Int) : look (l ++ [(a, v)]) k = (look l k).or (if a = k then some v else none) := by
  unfold look
  rw [List.find?_append]
  cases h : l.find? (fun p => p.1 == k)
  · by_cases e : a = k <;> simp [e]
  · simp
theorem look_some_mem {l : List (Int × Value)} {k : Int} {v : Value} (h : look l k = some v) : (k, v) ∈ l := by
  unfold look at h
  cases hf : l.find? (fun p => p.1 == k) with
  | none => rw [hf] at h; cases h
  | some p =>
    rw [hf] at h
    simp at h
    have h1 := List.find?_some hf
    have h2 := List.mem_of_find?_eq_some hf
    simp at h1
    obtain ⟨a, b⟩ := p
    simp at h h1
    subst h; subst h1
    exact h2
theorem look_none {l : List (Int × Value)} {k : Int} (h : ∀ p ∈ l, p.1 ≠ k) : look l k = none := by
  unfold look
  rw [List.find?_eq_none.2 (by intro p hp; simp; exact h p hp)]
  rfl

theorem IMap.chg {S : List Nat} {w w' : World} {r : Nat} {l : List (Int × Value)} (h : IMap w r l) (hc : Chg S w w') (hs : r ∉ S) : IMap w' r l := by
  obtain ⟨es, c, h1, h2⟩ := h
  exact ⟨es, c, hc.has h1 hs, h2⟩
theorem IMap.lt {w : World} {r : Nat} {l : List (Int × Value)} (h : IMap w r l) : r < w.heap.size := by
  obtain ⟨es, c, h1, _⟩ := h
  exact lt_of_has h1
theorem IMap.drewN {w : World} {r : Nat} {l : List (Int × Value)} (h : IMap w r l) (n : Nat) : IMap (w.drewN n) r l := h
theorem IMap.made (w : World) : IMap (w.alloc (.map #[] 0)) w.heap.size [] := ⟨#[], 0, has_alloc_new _ _, rfl⟩
theorem IMap.ne {w : World} {r b : Nat} {l : List (Int × Value)} {cs : Array Value} {t : TypeId} {fz : Nat × Nat} (h : IMap w r l) (hb : w.heap[b]? = some (.cells cs t fz)) : r ≠ b := by
  rintro rfl
  obtain ⟨es, c, h1, _⟩ := h
  rw [hb] at h1
  cases h1

theorem findNow_ents (x : Int) : ∀ (es : List MapEntry) (l : List (Int × Value)) (i : Nat), es.map (fun e => (e.key, e.val)) = l.map (fun p => (Value.int .i64 p.1, p.2)) →
    ∃ j, Instr.findNow (.int .i64) (.int .i64 x) es i = some ((look l x).map (fun v => (j, v)))
  | [], l, i, h => by
    cases l with
    | nil => exact ⟨0, rfl⟩
    | cons p l => simp at h
  | e :: es, l, i, h => by
    cases l with
    | nil => simp at h
    | cons p l =>
      simp only [List.map_cons, List.cons.injEq, Prod.mk.injEq] at h
      obtain ⟨⟨h1, h2⟩, h3⟩ := h
      obtain ⟨j, hj⟩ := findNow_ents x es l (i+1) h3
      unfold Instr.findNow
      rw [h1]
      simp only [Instr.sameNow, if_true]
      by_cases e1 : x = p.1
      · refine ⟨i, ?_⟩
        simp only [e1, beq_self_eq_true, look, List.find?_cons, Option.map_some, h2]
      · refine ⟨j, ?_⟩
        have e2 : (x == p.1) = false := by simpa using e1
        have e3 : (p.1 == x) = false := by simpa using fun h => e1 h.symm
        simp only [e2, hj, look, List.find?_cons, e3]

section
variable {P : Program} {T K E : TypeId} {w : World} {r : Nat} {l : List (Int × Value)} {z : Value}

theorem run_findKey_imap (hK : P.underlying K = some (.int .i64)) (x : Int) {es : Array MapEntry} (h : es.toList.map (fun e => (e.key, e.val)) = l.map (fun p => (Value.int .i64 p.1, p.2))) :
    ∃ j, (Instr.findKey K (.int .i64 x) es.toList).run P w = .ok ((look l x).map (fun v => (j, v))) w := by
  obtain ⟨j, hj⟩ := findNow_ents x es.toList l 0 h
  refine ⟨j, ?_⟩
  simp [Instr.findKey, run_underlying hK, hj]

theorem run_checkKey_n (hK : P.underlying K = some (.int .i64)) (em : Bool) (x : Int) (n : Nat) : (Instr.checkKey em (n + 1) K (.int .i64 x)).run P w = .ok () w := by
  simp [Instr.checkKey, run_underlying hK]
theorem run_checkKey_int (hK : P.underlying K = some (.int .i64)) (em : Bool) (x : Int) : (Instr.checkKey em 10000 K (.int .i64 x)).run P w = .ok () w := run_checkKey_n hK em x 9999

/-- 'v, ok := m[k]'. -/
theorem run_lookup_ok (hT : P.underlying T = some (.map K E)) (hK : P.underlying K = some (.int .i64)) (hz : (zeroValue E).run P w = .ok z w) (hm : IMap w r l) (x : Int) :
    (Instr.lookup T (.map (some r)) (.int .i64 x) true).run P w = .ok (.tuple #[(look l x).getD z, .bool (look l x).isSome]) w := by
  obtain ⟨es, c, h1, h2⟩ := hm
  obtain ⟨j, hj⟩ := run_findKey_imap (w := w) hK x h2
  cases hl : look l x <;> simp [Instr.lookup, run_underlying hT, Sem.run, getObj, h1, run_checkKey_int hK, hj, hl, hz]

/-- 'm[k]'. -/
theorem run_lookup_one (hT : P.underlying T = some (.map K E)) (hK : P.underlying K = some (.int .i64)) (hz : (zeroValue E).run P w = .ok z w) (hm : IMap w r l) (x : Int) :
    (Instr.lookup T (.map (some r)) (.int .i64 x) false).run P w = .ok ((look l x).getD z) w := by
  obtain ⟨es, c, h1, h2⟩ := hm
  obtain ⟨j, hj⟩ := run_findKey_imap (w := w) hK x h2
  cases hl : look l x <;> simp [Instr.lookup, run_underlying hT, Sem.run, getObj, h1, run_checkKey_int hK, hj, hl, hz]

/-- 'm[k] = v' at a key that is new. -/
theorem run_mapput_new (hT : P.underlying T = some (.map K E)) (hK : P.underlying K = some (.int .i64)) (hm : IMap w r l) (x : Int) (hl : look l x = none) (v : Value) :
    ∃ w', (Instr.mapUpdate T (.map (some r)) (.int .i64 x) v).run P w = .ok () w' ∧ IMap w' r (l ++ [(x, v)]) ∧ Chg [r] w w' ∧ w'.heap.size = w.heap.size := by
  obtain ⟨es, c, h1, h2⟩ := hm
  obtain ⟨j, hj⟩ := run_findKey_imap (w := w) hK x h2
  rw [hl] at hj
  refine ⟨{ w with heap := w.heap.setIfInBounds r (.map (es.push { key := .int .i64 x, val := v, born := c }) (c + 1)) }, ?_, ?_, ?_, by simp⟩
  · simp [Instr.mapUpdate, run_underlying hT, Sem.run, getObj, setObj, h1, run_checkKey_int hK, hj]
  · refine ⟨es.push { key := .int .i64 x, val := v, born := c }, c + 1, ?_, ?_⟩
    · have := lt_of_has h1
      simp [this]
    · simp [h2]
  · refine ⟨rfl, rfl, rfl, by simp, fun k hk hs => ?_⟩
    simp at hs
    simp [Array.getElem?_setIfInBounds, Ne.symm hs]

theorem run_len_imap (hT : P.underlying T = some (.map K E)) (hm : IMap w r l) (ty : TypeId) : (Builtin.len_ #[T] ty #[.map (some r)]).run P w = .ok (.int .i64 l.length) w := by
  obtain ⟨es, c, h1, h2⟩ := hm
  have hs : es.size = l.length := by
    have := congrArg List.length h2
    simpa using this
  simp [Builtin.len_, run_underlying hT, Sem.run, getObj, h1, hs, goInt]
end

end Go.Proofs.Ytgiackgdceanhaa
