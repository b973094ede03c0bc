/- BeatFew: the walk of the law. -/
import Derived.Test.YtogianigkpldcaaBeatJ
namespace Go.Proofs.Ytogianigkpldcaa
set_option linter.unusedVariables false
set_option linter.unusedSimpArgs false
open Go.RowKit

/-- How often a node was told silent: by its timeout. -/
def Few (p : Pr) (told : Int) : Prop :=
  (p.timeout = 4 ∧ ((p.silent = false ∧ told = 0) ∨ (p.silent = true ∧ told = 1))) ∨
  (p.timeout = 8 ∧ ((p.silent = false ∧ told = 1) ∨ (p.silent = true ∧ told = 2))) ∨
  (p.timeout = 16 ∧ ((p.silent = false ∧ told = 2) ∨ (p.silent = true ∧ told = 3))) ∨
  (p.timeout = 32 ∧ ((p.silent = false ∧ told = 3) ∨ (p.silent = true ∧ told = 4))) ∨
  (p.timeout = 64 ∧ (p.silent = false ∧ told = 4))

theorem Few.bd {p : Pr} {told : Int} (h : Few p told) : 0 ≤ told ∧ told ≤ 4 := by
  unfold Few at h; omega

theorem Few.heard {f : Nat → Pr} {told : Int} (h : Few (f 2) told) (k : Nat) (now : Int) : Few (heardF f k now 2) told := by
  unfold heardF
  by_cases e : 2 = k
  · subst e
    rw [if_pos rfl]
    unfold Few at h ⊢
    rcases h with ⟨ht, ⟨hs, h⟩ | ⟨hs, h⟩⟩ | ⟨ht, ⟨hs, h⟩ | ⟨hs, h⟩⟩ | ⟨ht, ⟨hs, h⟩ | ⟨hs, h⟩⟩ | ⟨ht, ⟨hs, h⟩ | ⟨hs, h⟩⟩ | ⟨ht, ⟨hs, h⟩⟩
    all_goals
      simp [hs, ht, h]
      try decide
  · rw [if_neg e]; exact h

theorem count_oth (g : Nat → Bool) : ((oth 1 g 5).count 2 : Nat) = if g 2 = true then 1 else 0 := by
  rw [oth_succ, oth_succ, oth_succ, oth_succ, oth_succ, oth_zero]
  cases g 2 <;> cases g 3 <;> cases g 4 <;> simp

theorem Few.check {f : Nat → Pr} {told now : Int} (h : Few (f 2) told) (hb : now ≤ (f 2).heard + 64) :
    Few (sil f (lates 4 1 now f) 2) (told + ((lates 4 1 now f).count 2 : Nat)) := by
  have hc := count_oth (lateB now f)
  have hm : ((2 : Nat) : Int) ∈ lates 4 1 now f ↔ lateB now f 2 = true := by
    unfold lates
    rw [oth_mem]
    constructor
    · rintro ⟨i, hi, _, _, _, hl⟩
      have : i = 2 := by omega
      subst this; exact hl
    · intro hl
      exact ⟨2, rfl, by omega, by omega, by omega, hl⟩
  unfold sil lates at *
  rw [hc]
  cases hl : lateB now f 2
  · rw [if_neg (by rw [hm, hl]; decide), if_neg (by decide)]
    simpa using h
  · rw [if_pos (hm.2 hl), if_pos rfl]
    unfold lateB at hl
    simp only [Bool.and_eq_true, Bool.not_eq_true', decide_eq_true_eq] at hl
    obtain ⟨h1, h2⟩ := hl
    unfold Few at h ⊢
    simp only [h1] at h ⊢
    simp
    simp at h
    omega

theorem heardF_heard (f : Nat → Pr) (k : Nat) (now : Int) : (heardF f k now 2).heard = if 2 = k then now else (f 2).heard := by
  unfold heardF; split <;> rfl
theorem sil_heard (f : Nat → Pr) (l : List Int) (i : Nat) : (sil f l i).heard = (f i).heard := by
  unfold sil; split <;> rfl

end Go.Proofs.Ytogianigkpldcaa
