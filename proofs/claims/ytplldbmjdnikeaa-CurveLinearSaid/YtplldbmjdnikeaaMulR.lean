/- What the document's bits of a number stand for: plain Lean. -/
import Derived.Test.YtplldbmjdnikeaaMulP
import Derived.Test.YtplldbmjdnikeaaRefK
namespace Go.Proofs.Ytplldbmjdnikeaa
set_option linter.unusedVariables false
set_option linter.unusedSimpArgs false
open Go.RowKit

/-- The document's multiple, from the highest bit on. -/
def rtm (k : Nat) (a : J) : Nat → J
  | 0 => ⟨0, 1, 0⟩
  | m + 1 => if k / 2 ^ (255 - m) % 2 = 1 then rpl (rtw (rtm k a m)) a else rtw (rtm k a m)
theorem rep_rtm {k : Nat} (hk : k < B6 ^ 4) {P : Pc} (hP : P.on 7) {a : J} (ha : RepO a P) : ∀ m, m ≤ 256 → RepO (rtm k a m) (mulP (k / 2 ^ (256 - m)) P)
  | 0, _ => by
    have : k / 2 ^ (256 - 0) = 0 := Nat.div_eq_of_lt hk
    rw [this]
    exact .inf rfl
  | m + 1, hm => by
    have ih := rep_rtm hk hP ha m (by omega)
    have h2 := repo_tw (mulP_on hP _) ih
    rw [← mulP_add hP] at h2
    have e := bit_step k (255 - m)
    rw [show 255 - m + 1 = 256 - m by omega] at e
    show RepO (if k / 2 ^ (255 - m) % 2 = 1 then rpl (rtw (rtm k a m)) a else rtw (rtm k a m)) _
    rw [show 256 - (m + 1) = 255 - m by omega]
    obtain ⟨b, hb⟩ : ∃ b, k / 2 ^ (255 - m) % 2 = b := ⟨_, rfl⟩
    rw [hb] at e ⊢
    rw [← e]
    have hb1 : b = 0 ∨ b = 1 := by omega
    rcases hb1 with rfl | rfl
    · rw [if_neg (by decide)]
      exact h2
    · rw [if_pos rfl]
      exact repo_pl (mulP_on hP _) hP h2 ha
theorem rtm_all {k : Nat} (hk : k < B6 ^ 4) {P : Pc} (hP : P.on 7) : RepO (rtm k (rin P) 256) (mulP k P) := by
  have h := rep_rtm hk hP (repo_rin P) 256 (Nat.le_refl _)
  rwa [Nat.sub_self, Nat.pow_zero, Nat.div_one] at h

end Go.Proofs.Ytplldbmjdnikeaa
