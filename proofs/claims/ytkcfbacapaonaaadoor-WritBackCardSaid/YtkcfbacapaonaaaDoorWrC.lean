/- Scripts as text, in plain Lean, third part: what is formatted is parsed, and what is parsed is formatted so. -/
import Derived.Test.YtkcfbacapaonaaaDoorWrB
namespace Go.Proofs.YtkcfbacapaonaaaDoor
set_option linter.unusedVariables false
set_option linter.unusedSimpArgs false
open Go.Lib

theorem goS_err : ∀ {ls : List (List UInt8)} {i : Nat} {s w : Sc} {k e : Int}, goS i s ls = (w, k, e) → e ≠ 0 → w = Sc.zero ∧ 1 ≤ k
  | [], i, s, w, k, e, h, he => by rw [goS] at h; injection h with h1 h2; injection h2 with h2 h3; exact ⟨h1.symm, by omega⟩
  | [t], i, s, w, k, e, h, he => by
    rw [goS] at h
    split at h <;> (injection h with h1 h2; injection h2 with h2 h3)
    · exact absurd h3.symm he
    · exact ⟨h1.symm, by omega⟩
  | t :: u :: r, i, s, w, k, e, h, he => by
    rw [goS] at h
    · split at h
      · split at h
        · injection h with h1 h2; injection h2 with h2 h3; exact ⟨h1.symm, by omega⟩
        · exact goS_err h he
      · split at h
        · injection h with h1 h2; injection h2 with h2 h3; exact ⟨h1.symm, by omega⟩
        · split at h
          · injection h with h1 h2; injection h2 with h2 h3; exact ⟨h1.symm, by omega⟩
          · exact goS_err h he
    · simp
theorem goS_ok : ∀ {ls : List (List UInt8)} {i : Nat} {s w : Sc} {k : Int}, 0 < i → s.l.length ≤ 500 → goS i s ls = (w, k, 0) →
    k = 0 ∧ ∃ xs : List Ch, w = { s with l := s.l ++ xs } ∧ ls = xs.map lineL ++ [[]] ∧ (∀ x ∈ xs, lineOk' x ∧ x.ok) ∧ s.l.length + xs.length ≤ 500
  | [], i, s, w, k, _, _, h => by rw [goS] at h; injection h with h1 h2; injection h2 with h2 h3; cases h3
  | [t], i, s, w, k, hi, hs, h => by
    rw [goS] at h
    split at h <;> (injection h with h1 h2; injection h2 with h2 h3)
    · rename_i hc
      exact ⟨h2.symm, [], by rw [← h1]; simp, by rw [hc.2]; rfl, by simp, by simpa using hs⟩
    · cases h3
  | t :: u :: r, i, s, w, k, hi, hs, h => by
    rw [goS] at h
    · rw [if_neg (by omega)] at h
      split at h
      · injection h with h1 h2; injection h2 with h2 h3; cases h3
      · rename_i x hx
        split at h
        · injection h with h1 h2; injection h2 with h2 h3; cases h3
        · rename_i hl
          obtain ⟨hk, xs, h1, h2, h3, h4⟩ := goS_ok (Nat.succ_pos i) (by simp; omega) h
          obtain ⟨l1, l2, l3⟩ := line_choice hx
          refine ⟨hk, x :: xs, by rw [h1]; simp, by rw [h2, ← l1]; rfl, ?_, by simp at h4 ⊢; omega⟩
          intro y hy
          rcases List.mem_cons.1 hy with rfl | hy
          · exact ⟨l2, l3⟩
          · exact h3 y hy
    · simp
theorem goS_go : ∀ {xs : List Ch} {i : Nat} {s : Sc}, 0 < i → (∀ x ∈ xs, lineOk' x ∧ x.ok) → s.l.length + xs.length ≤ 500 → goS i s (xs.map lineL ++ [[]]) = ({ s with l := s.l ++ xs }, 0, 0)
  | [], i, s, hi, _, _ => by simp [goS, hi]
  | x :: xs, i, s, hi, h, hl => by
    obtain ⟨h1, h2⟩ := h x (by simp)
    have hr : ∃ u r, xs.map lineL ++ [[]] = u :: r := by
      cases xs with
      | nil => exact ⟨_, _, rfl⟩
      | cons y ys => exact ⟨_, _, rfl⟩
    obtain ⟨u, r, hr⟩ := hr
    have ih := goS_go (xs := xs) (i := i + 1) (s := { s with l := s.l ++ [x] }) (Nat.succ_pos i) (fun y hy => h y (by simp [hy])) (by simp at hl ⊢; omega)
    rw [List.map_cons, List.cons_append]
    rw [hr] at ih ⊢
    rw [goS]
    · rw [if_neg (by omega), choice_line h2 h1]
      simp only
      rw [if_neg (by simp at hl; omega), ih]
      simp
    · simp

/-- THERE: what is formatted is parsed. -/
theorem format_parse {s : Sc} {a : List UInt8} (hs : s.ok) (h : formatS s = (a, 0)) : parseS a = (s, 0, 0) := by
  unfold formatS at h
  split at h
  · injection h with _ h; cases h
  · rename_i h1
    split at h
    · injection h with _ h; cases h
    · rename_i h2
      split at h
      · rename_i h3
        injection h with h _
        subst h
        unfold parseS
        have hp : parts 10 (join (headL s :: s.l.map lineL) [10]) = headL s :: s.l.map lineL := parts_join (by simp) (by
          intro p hp
          rcases List.mem_cons.1 hp with rfl | hp
          · exact head_no s
          · obtain ⟨x, _, rfl⟩ := List.mem_map.1 hp
            exact line_no x)
        rw [parts_snoc, hp, List.cons_append]
        have hr : ∃ u r, s.l.map lineL ++ [[]] = u :: r := by
          cases s.l with
          | nil => exact ⟨_, _, rfl⟩
          | cons y ys => exact ⟨_, _, rfl⟩
        obtain ⟨u, r, hr⟩ := hr
        have ih := goS_go (xs := s.l) (i := 0 + 1) (s := { s with l := [] }) (Nat.succ_pos 0) (fun y hy => ⟨h3 y hy, hs.2.2.2 y hy⟩) (by simp; omega)
        rw [hr] at ih ⊢
        rw [goS]
        · rw [if_pos rfl, head_line hs (by omega) (by omega) (by omega)]
          simp only
          rw [ih]
          simp
        · simp
      · injection h with _ h; cases h
/-- AND BACK: what is parsed is formatted so. -/
theorem parse_format {t : List UInt8} {w : Sc} {k : Int} (h : parseS t = (w, k, 0)) : k = 0 ∧ formatS w = (t, 0) ∧ w.ok := by
  unfold parseS at h
  have hj := join_parts 10 t
  revert h hj
  cases hps : parts 10 t with
  | nil => intro h; rw [goS] at h; injection h with h1 h2; injection h2 with h2 h3; cases h3
  | cons p r =>
    cases r with
    | nil =>
      intro h _
      rw [goS, if_neg (by simp)] at h
      injection h with h1 h2; injection h2 with h2 h3; cases h3
    | cons u r =>
      intro h hj
      rw [goS] at h
      · rw [if_pos rfl] at h
        split at h
        · injection h with h1 h2; injection h2 with h2 h3; cases h3
        · rename_i s hs
          obtain ⟨l1, l2, l3, l4, l5, l6⟩ := line_head hs
          obtain ⟨hk, xs, h1, h2, h3, h4⟩ := goS_ok (Nat.succ_pos 0) (by simp [l5]) h
          rw [l5] at h4
          have hw : w = { s with l := xs } := by rw [h1, l5]; rfl
          refine ⟨hk, ?_, ?_⟩
          · unfold formatS
            rw [hw]
            rw [if_neg (by simp at h4; simp; omega), if_neg (by simp; omega), if_pos (fun x hx => (h3 x hx).1)]
            congr 1
            rw [← hj, h2, ← l1]
            show join (headL s :: xs.map lineL) [10] ++ [10] = join (headL s :: (xs.map lineL ++ [[]])) [10]
            rw [join_cons, join_cons]
            simp [joinTail]
          · obtain ⟨o1, o2, o3, _⟩ := l6
            rw [hw]
            exact ⟨o1, o2, o3, fun x hx => (h3 x hx).2⟩
      · simp
theorem parse_err {t : List UInt8} {w : Sc} {k e : Int} (h : parseS t = (w, k, e)) (he : e ≠ 0) : w = Sc.zero ∧ 1 ≤ k := goS_err h he

end Go.Proofs.YtkcfbacapaonaaaDoor
