/- Small functions: a word read as a number; kinds' words and names; where a letter stands; a hex digit's place. -/
import Derived.Test.YtkcfbacapaonaaaDoorWrG
namespace Go.Proofs.YtkcfbacapaonaaaDoor
set_option linter.unusedVariables false
set_option linter.unusedSimpArgs false
open Go.RowKit Go.Lib

theorem number_any (s : ByteArray) (hs : s.size ≤ 281474976710656) (w : World) (hg : GW w) : Calls Tryd.prog 24 #[.string s] w fun e w' => e = .returned (.int .i64 (numV s.data.toList)) ∧ Chg [] w w' := by
  have c1 := Lib.hid (atoi_any s hs w hg)
  go_enter Tryd.func24, Tryd.ntmps24
  go_wp2_with fail
  refine c1.out.mono ?_
  rintro e w1 ⟨t, rfl, hC⟩
  have HC := Lib.hid hC
  clear hC
  go_wp2_with fail
  go_ret
  exact ⟨rfl, HC.out⟩

set_option maxRecDepth 100000 in
set_option maxHeartbeats 2000000 in
theorem shape_any (k : Int) (w : World) : Calls Tryd.prog 33 #[.int .i64 k] w fun e w' => e = .returned (.tuple #[.string ⟨(wordL k).toArray⟩, .string ⟨(namesL k).toArray⟩]) ∧ w = w' := by
  rcases kind_cases k with h | ⟨h1, h2, h3⟩
  · rcases h with rfl | rfl | rfl | rfl | rfl | rfl | rfl | rfl | rfl | rfl
    all_goals
      go_enter Tryd.func33, Tryd.ntmps33
      go_wp2_with fail
      go_ret2
      exact ⟨rfl, rfl⟩
  · rw [h1, h2]
    have e1 : (k == 1) = false := by simp; omega
    have e2 : (k == 2) = false := by simp; omega
    have e3 : (k == 3) = false := by simp; omega
    have e4 : (k == 4) = false := by simp; omega
    have e5 : (k == 5) = false := by simp; omega
    have e6 : (k == 6) = false := by simp; omega
    have e7 : (k == 7) = false := by simp; omega
    have e8 : (k == 8) = false := by simp; omega
    have e9 : (k == 9) = false := by simp; omega
    have e10 : (k == 10) = false := by simp; omega
    clear h1 h2 h3
    go_enter Tryd.func33, Tryd.ntmps33
    go_wp2_with fail
    go_ret2
    exact ⟨rfl, rfl⟩

/-- Where a letter of a shape stands. -/
def offC (c : UInt8) : Nat := if c = 110 then 1 else if c = 107 then 2 else if c = 105 then 3 else 4
set_option maxRecDepth 100000 in
set_option maxHeartbeats 2000000 in
theorem place_any (b : Nat) (c : UInt8) (w : World) : Calls Tryd.prog 34 #[.pointer (some ⟨b, 0, none⟩), .int .u8 c.toNat] w fun e w' => e = .returned (.pointer (some ⟨b, offC c, none⟩)) ∧ w = w' := by
  have hc : ∀ d : UInt8, c ≠ d → ((c.toNat : Int) == (d.toNat : Int)) = false := fun d h => by
    simp only [beq_eq_false_iff_ne, ne_eq]
    intro e
    exact h (UInt8.toNat_inj.1 (by omega))
  by_cases h1 : c = 110
  · subst h1
    go_enter Tryd.func34, Tryd.ntmps34
    go_wp2_with fail
    go_ret
    exact ⟨rfl, rfl⟩
  · by_cases h2 : c = 107
    · subst h2
      go_enter Tryd.func34, Tryd.ntmps34
      go_wp2_with fail
      go_ret
      exact ⟨rfl, rfl⟩
    · by_cases h3 : c = 105
      · subst h3
        go_enter Tryd.func34, Tryd.ntmps34
        go_wp2_with fail
        go_ret
        exact ⟨rfl, rfl⟩
      · have e1 : ((c.toNat : Int) == 110) = false := hc 110 h1
        have e2 : ((c.toNat : Int) == 107) = false := hc 107 h2
        have e3 : ((c.toNat : Int) == 105) = false := hc 105 h3
        have e : offC c = 4 := by simp [offC, h1, h2, h3]
        rw [e]
        clear hc h1 h2 h3 e
        go_enter Tryd.func34, Tryd.ntmps34
        go_wp2_with fail
        go_ret
        exact ⟨rfl, rfl⟩

set_option maxRecDepth 100000 in
set_option maxHeartbeats 2000000 in
theorem ref_word (k : Int) (w : World) : Calls Tryd.prog 39 #[.int .i64 k] w fun e w' => e = .returned (.string ⟨(wordL k).toArray⟩) ∧ Chg [] w w' := by
  rcases kind_cases k with h | ⟨h1, h2, h3⟩
  · rcases h with rfl | rfl | rfl | rfl | rfl | rfl | rfl | rfl | rfl | rfl
    all_goals
      go_enter Tryd.func39, Tryd.ntmps39
      go_wp2_with fail
      go_ret
      exact ⟨rfl, by repeat (with_reducible first | exact Chg.refl _ _ | apply Chg.drewN | apply Chg.drew | apply Chg.alloc)⟩
  · rw [h1]
    by_cases hk : k < 1
    · have e1 : decide (k < 1) = true := by simpa using hk
      clear h1 h2 h3
      go_enter Tryd.func39, Tryd.ntmps39
      go_wp2_with fail
      go_ret
      exact ⟨rfl, Chg.refl _ _⟩
    · have e1 : decide (k < 1) = false := by simpa using hk
      have e2 : decide (10 < k) = true := by simp; omega
      clear h1 h2 h3
      go_enter Tryd.func39, Tryd.ntmps39
      go_wp2_with fail
      go_ret
      exact ⟨rfl, Chg.refl _ _⟩

set_option maxRecDepth 100000 in
set_option maxHeartbeats 2000000 in
theorem ref_names {k : Int} (hk : 1 ≤ k ∧ k ≤ 10) (w : World) : Calls Tryd.prog 40 #[.int .i64 k] w fun e w' => e = .returned (.string ⟨(namesL k).toArray⟩) ∧ Chg [] w w' := by
  have : k = 1 ∨ k = 2 ∨ k = 3 ∨ k = 4 ∨ k = 5 ∨ k = 6 ∨ k = 7 ∨ k = 8 ∨ k = 9 ∨ k = 10 := by omega
  clear hk
  rcases this with rfl | rfl | rfl | rfl | rfl | rfl | rfl | rfl | rfl | rfl
  all_goals
    go_enter Tryd.func40, Tryd.ntmps40
    go_wp2_with fail
    go_ret
    exact ⟨rfl, by repeat (with_reducible first | exact Chg.refl _ _ | apply Chg.drewN | apply Chg.drew | apply Chg.alloc)⟩

end Go.Proofs.YtkcfbacapaonaaaDoor
