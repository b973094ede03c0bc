/- Arguments opened: slices of whole numbers, structs by value, as the laws' walks take them. -/
import Derived.Test.YtogianigkpldcaaBase
import Derived.Lib.SmallJoins
import Derived.ChangeSlices
namespace Go.Proofs.Ytogianigkpldcaa
set_option linter.unusedVariables false
set_option linter.unusedSimpArgs false
open Go.RowKit Go.WideShapes Go.ChangeShapes

section
variable {H : Type} {enc : TypeId × Value → H} {P : Program} {W : World}

theorem addr_add_none (b off i : Nat) : (⟨b, off, none⟩ : Addr).add i = ⟨b, off + i, none⟩ := by
  unfold Addr.add
  split
  · rename_i h; subst h; rfl
  · rfl

/-- A slice of whole numbers that came in. -/
theorem open_sliceI {T e : TypeId} (ht : P.underlying T = some (.slice e)) (he : P.underlying e = some (.int .i64)) (hc : P.cellsOf e = 1) {n : Nat} {v : Value} {y : DataW H × List MemPlace}
    (h : DataW.trod enc P W 0 (fun _ => true) true n T [v] = some y) :
    ∃ (a : Option Addr) (cap : Nat) (zs : List Int), v = .slice a zs.length cap ∧ ReadsI W a zs ∧ zs.length ≤ 9223372036854775807 ∧ (∀ z ∈ zs, (Lit.int .i64 z).wf = true) := by
  rcases open_ints ht he hc h with ⟨hcs, _⟩ | ⟨a, len, cap, zs, hcs, _, hl, hm, hz, hx, hcell, hwz⟩
  · injection hcs with hcs
    exact ⟨none, 0, [], hcs, fun h => by simp at h, by simp, by simp⟩
  · injection hcs with hcs
    simp only [if_true] at hz
    refine ⟨some a, cap, zs.take len, ?_, ?_, ?_, ?_⟩
    · rw [hcs, List.length_take, Nat.min_eq_left (by omega)]
    · intro h0
      have h0' : 0 < zs.length := by simp at h0; omega
      have hc0 := hcell 0 h0'
      obtain ⟨b, off, sp⟩ := a
      cases sp with
      | some s => simp [Addr.add, World.cell?] at hc0; split at hc0 <;> simp at hc0
      | none =>
        refine ⟨b, off, rfl, ?_, ?_⟩
        · have := World.block_lt_of_cell? W _ hc0
          simpa [Addr.add] using this
        · intro i hi
          have hi' : i < zs.length := by simp at hi; omega
          have := hcell i hi'
          rw [addr_add_none] at this
          rw [this]
          have hi2 : i < len := by simp at hi; omega
          simp [List.getD, List.getElem?_take, hi2]
    · have := List.length_take_le len zs
      simp only [maxLen] at hm
      simp
      omega
    · intro z hz'
      exact hwz z (List.mem_of_mem_take hz')

theorem open_intI {T : TypeId} {k : IntKind} (ht : P.underlying T = some (.int k)) {n : Nat} {v : Value} {y : DataW H × List MemPlace} (h : DataW.trod enc P W 0 (fun _ => true) true n T [v] = some y) :
    ∃ z, v = .int k z ∧ (Lit.int k z).wf = true := by
  obtain ⟨z, hz, _, hw⟩ := DataW.trod_int ht h
  injection hz with hz
  exact ⟨z, hz, hw⟩
end

end Go.Proofs.Ytogianigkpldcaa
