/- How long a script's text is. -/
import Derived.Test.YtkcfbacapaonaaaDoorWrLg
import Derived.Test.YtkcfbacapaonaaaDoorWrO
namespace Go.Proofs.YtkcfbacapaonaaaDoor
set_option linter.unusedVariables false
set_option linter.unusedSimpArgs false
open Go.RowKit Go.Lib

theorem line_len2 {x : Ch} (hx : x.ok) : (lineL x).length ≤ 2 * x.m.length + 100 := by
  have hi : ∀ c, (itoa (getI x c)).length ≤ 21 := fun c => itoa_length_le _ (getI_in hx c).1 (getI_in hx c).2
  have hh := hexL_len x.m
  have i0 := hi 110; have i1 := hi 105; have i2 := hi 107; have i3 := hi 109
  rcases kind_cases x.kind with (h | h | h | h | h | h | h | h | h | h) | ⟨h1, h2, _⟩
  all_goals first
    | (unfold lineL tailL; rw [h]; simp [wordL, namesL, fieldL]; omega)
    | (unfold lineL tailL; rw [h1, h2]; simp)
theorem head_len2 {s : Sc} (hs : s.ok) : (headL s).length ≤ 2 * s.seed.length + 100 := by
  obtain ⟨h1, h2, h3, _⟩ := hs
  have a1 := itoa_length_le s.n h1.1 h1.2
  have a2 := itoa_length_le s.f h2.1 h2.2
  have a3 := itoa_length_le s.odd h3.1 h3.2
  have a4 := hexL_len s.seed
  rw [headL, headPs, join_cons, joinTail]
  simp [benchW]
  omega
theorem lines_sum : ∀ {xs : List Ch}, (∀ x ∈ xs, x.ok) → (xs.flatMap fun x => lineL x ++ [10]).length ≤ 2 * msum xs + 101 * xs.length
  | [], _ => by simp [msum]
  | x :: r, h => by
    have h1 := line_len2 (h x (by simp))
    have h2 := lines_sum (xs := r) fun y hy => h y (by simp [hy])
    rw [List.flatMap_cons, List.length_append, List.length_append, msum, List.length_cons]
    simp at h1 h2 ⊢
    omega
/-- A script's text is no longer than Parse reads. -/
theorem fmt_len {s : Sc} {a : List UInt8} (hs : s.ok) (hm : msum s.l ≤ 20000) (h : formatS s = (a, 0)) : a.length ≤ 1000000 := by
  unfold formatS at h
  split at h
  · simp at h
  · rename_i h1
    split at h
    · simp at h
    · split at h
      · simp only [Prod.mk.injEq, and_true] at h
        rw [← h, ← lines_join, List.length_append, List.length_append]
        have a1 := head_len2 hs
        have a2 := lines_sum hs.2.2.2
        simp at a2 ⊢
        omega
      · simp at h

/-- A message is no longer than its line. -/
theorem msg_len {x : Ch} (h : lineOk' x) : x.m.length ≤ (lineL x).length := by
  obtain ⟨h1, h2⟩ := h
  have hh : x.m.length ≤ (hexL x.m).length := by
    unfold hexL
    split
    · rename_i e; rw [e]; simp
    · rw [hexP_len]; omega
  have h3 := congrArg Ch.m h2
  rcases kind_cases x.kind with (h | h | h | h | h | h | h | h | h | h) | ⟨h1', _⟩
  all_goals first
    | exact absurd h1' h1
    | (unfold projC at h3; rw [h] at h3; simp [namesL, cp, setI, Ch.of] at h3; rw [h3]; simp; done)
    | (unfold lineL tailL; rw [h]; simp [wordL, namesL, fieldL]; omega)
theorem line_in {x : Ch} : ∀ {xs : List Ch}, x ∈ xs → (lineL x).length ≤ (xs.flatMap fun x => lineL x ++ [10]).length
  | y :: r, h => by
    rw [List.flatMap_cons, List.length_append, List.length_append]
    rcases List.mem_cons.1 h with rfl | h
    · omega
    · have := line_in h; omega
theorem fmt_in {s : Sc} {a : List UInt8} (h : formatS s = (a, 0)) : s.seed.length ≤ 60 ∧ s.l.length ≤ 500 ∧ ∀ x ∈ s.l, x.m.length ≤ a.length := by
  unfold formatS at h
  split at h
  · simp at h
  · rename_i h1
    split at h
    · simp at h
    · split at h
      · rename_i h3
        simp only [Prod.mk.injEq, and_true] at h
        refine ⟨by omega, by omega, fun x hx => ?_⟩
        rw [← h, ← lines_join, List.length_append, List.length_append]
        have a1 := msg_len (h3 x hx)
        have a2 := line_in hx
        omega
      · simp at h

end Go.Proofs.YtkcfbacapaonaaaDoor
