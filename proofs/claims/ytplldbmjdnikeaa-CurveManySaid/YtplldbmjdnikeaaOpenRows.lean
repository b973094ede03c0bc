/- Slices that came in, opened: numbers, points. -/
import Derived.Test.YtplldbmjdnikeaaOpenPt
import Derived.Test.YtplldbmjdnikeaaSumC
namespace Go.Proofs.Ytplldbmjdnikeaa
set_option linter.unusedVariables false
set_option linter.unusedSimpArgs false
open Go.RowKit Go.WideShapes Go.ChangeShapes

section
variable {H : Type} {enc : TypeId × Value → H}
theorem addr_addO (b off i : Nat) : (⟨b, off, none⟩ : Addr).add i = ⟨b, off + i, none⟩ := by unfold Addr.add; split <;> simp_all
/-- A list of what exists at each place. -/
theorem choose_list {α : Type} {p : Nat → α → Prop} : ∀ (n : Nat), (∀ i, i < n → ∃ x, p i x) → ∃ l : List α, l.length = n ∧ ∀ i x, l[i]? = some x → p i x
  | 0, _ => ⟨[], rfl, by simp⟩
  | n + 1, h => by
    obtain ⟨l, hl, hp⟩ := choose_list n (fun i hi => h i (by omega))
    obtain ⟨x, hx⟩ := h n (by omega)
    refine ⟨l ++ [x], by simp [hl], fun i y hy => ?_⟩
    rcases Nat.lt_or_ge i n with hi | hi
    · rw [List.getElem?_append_left (by omega)] at hy; exact hp i y hy
    · rw [List.getElem?_append_right (by omega)] at hy
      have : i = n := by
        have := (List.getElem?_eq_some_iff.1 hy).1
        simp at this; omega
      subst this
      simp [hl] at hy
      subst hy; exact hx

/-- A slice whose elements are c cells each, opened: the cells of each element, where its block is. -/
theorem open_rows {P : Program} {α : Type} {T e : TypeId} {c : Nat} (hc0 : 0 < c) (ht : P.underlying T = some (.slice e)) (hc : P.cellsOf e = c) {W : World} {R : α → List Value → Prop}
    (hR : ∀ {fuel : Nat} {cs : List Value} {y : DataW H × List MemPlace}, DataW.trod enc P W 0 (fun _ => true) true fuel e cs = some y → ∃ x, R x cs) {n : Nat} {v : Value} {y : DataW H × List MemPlace}
    (h : DataW.trod enc P W 0 (fun _ => true) true n T [v] = some y) :
    ∃ (A : Option Addr) (cap : Nat) (l : List α), v = .slice A l.length cap ∧ l.length ≤ 9223372036854775807 ∧
      (0 < l.length → ∃ b off, A = some ⟨b, off, none⟩ ∧ b < W.heap.size ∧ ∀ (i : Nat) (x : α), l[i]? = some x → ∃ cs, R x cs ∧ cs.length = c ∧ ∀ j, j < c → W.cell? ⟨b, off + i * c + j, none⟩ = cs[j]?) := by
  rcases Go.Deep.open_slice ht h with ⟨hcs, _⟩ | ⟨a, len, cap, m, n', D, Pl, hcs, _, hl, hm, hmm, _, hx⟩
  · injection hcs with hcs
    exact ⟨none, 0, [], hcs, by simp, fun h => by simp at h⟩
  · injection hcs with hcs
    simp only [if_true] at hmm
    subst hmm
    rw [hc] at hx
    have hE : ∀ i, i < len → ∃ x : α, ∃ cs, R x cs ∧ W.cells? 0 (a.add (i * c)) c = some cs := by
      intro i hi
      obtain ⟨cs', h1, h2⟩ := hx i (by omega)
      obtain ⟨x, hx'⟩ := hR h2
      exact ⟨x, cs', hx', h1⟩
    obtain ⟨l, hll, hlp⟩ := choose_list len hE
    refine ⟨some a, _, l, by rw [hll]; exact hcs, by simp only [maxLen] at hm; omega, fun h0 => ?_⟩
    have hb : ∃ b off, a = ⟨b, off, none⟩ ∧ b < W.heap.size := by
      obtain ⟨cs', h1, _⟩ := hx 0 (by omega)
      obtain ⟨_, hcl, hat⟩ := World.cells?_some h1
      have h2 := hat 0 hc0
      rw [List.getElem?_eq_getElem (by omega)] at h2
      obtain ⟨b, off, sp⟩ := a
      cases sp with
      | some s => simp [Addr.add, World.cell?] at h2; split at h2 <;> simp at h2
      | none =>
        refine ⟨b, off, rfl, ?_⟩
        have := World.block_lt_of_cell? W _ h2
        simpa [Addr.add] using this
    obtain ⟨b, off, rfl, hbl⟩ := hb
    refine ⟨b, off, rfl, hbl, fun i x hi => ?_⟩
    obtain ⟨cs, hRx, hcs'⟩ := hlp i x hi
    obtain ⟨_, hcl, hat⟩ := World.cells?_some hcs'
    refine ⟨cs, hRx, hcl, fun j hj => ?_⟩
    have := hat j hj
    rw [addr_addO, addr_addO] at this
    exact this

theorem open_nums {W : World} {n : Nat} {v : Value} {y : DataW H × List MemPlace} (h : DataW.trod enc Try.prog W 0 (fun _ => true) true n 39 [v] = some y) :
    ∃ (A : Option Addr) (cap : Nat) (l : List Nat), v = .slice A l.length cap ∧ (∀ i, i < l.length → l.getD i 0 < B6 ^ 4) ∧ ReadsN W A l := by
  obtain ⟨A, cap, l, hv, hm, hx⟩ := open_rows (α := Nat) (c := 4) (R := fun x cs => x < B6 ^ 4 ∧ cs = [.int .u64 (lm x 0 : Nat), .int .u64 (lm x 1 : Nat), .int .u64 (lm x 2 : Nat), .int .u64 (lm x 3 : Nat)]) (by omega) Try.underlying39 (by kernel_rfl) (fun h => open_num h) h
  refine ⟨A, cap, l, hv, fun i hi => ?_, fun h0 => ?_⟩
  · obtain ⟨b, off, e, hb, hc⟩ := hx (by omega)
    obtain ⟨cs, h1, _⟩ := hc i _ (List.getElem?_eq_getElem hi)
    rw [List.getD_eq_getElem?_getD, List.getElem?_eq_getElem hi]
    exact h1.1
  · obtain ⟨b, off, e, hb, hc⟩ := hx h0
    refine ⟨b, off, e, hb, fun i hi c hl => ?_⟩
    obtain ⟨cs, h1, _, h3⟩ := hc i _ (List.getElem?_eq_getElem hi)
    rw [List.getD_eq_getElem?_getD, List.getElem?_eq_getElem hi, h3 c hl, h1.2]
    have : c = 0 ∨ c = 1 ∨ c = 2 ∨ c = 3 := by omega
    rcases this with rfl | rfl | rfl | rfl <;> rfl
theorem open_pts {W : World} {n : Nat} {v : Value} {y : DataW H × List MemPlace} (h : DataW.trod enc Try.prog W 0 (fun _ => true) true n 40 [v] = some y) :
    ∃ (A : Option Addr) (cap : Nat) (l : List Pd), v = .slice A l.length cap ∧ (∀ i, i < l.length → (l.getD i ⟨0, 0, false⟩).x < B6 ^ 4 ∧ (l.getD i ⟨0, 0, false⟩).y < B6 ^ 4) ∧ ReadsP W A l := by
  obtain ⟨A, cap, l, hv, hm, hx⟩ := open_rows (α := Pd) (c := 9) (R := fun p cs => p.x < B6 ^ 4 ∧ p.y < B6 ^ 4 ∧ cs = (pv p).toList) (by omega) Try.underlying40 (by kernel_rfl) (fun h => open_pt h) h
  refine ⟨A, cap, l, hv, fun i hi => ?_, fun h0 => ?_⟩
  · obtain ⟨b, off, e, hb, hc⟩ := hx (by omega)
    obtain ⟨cs, h1, _⟩ := hc i _ (List.getElem?_eq_getElem hi)
    rw [List.getD_eq_getElem?_getD, List.getElem?_eq_getElem hi]
    exact ⟨h1.1, h1.2.1⟩
  · obtain ⟨b, off, e, hb, hc⟩ := hx h0
    refine ⟨b, off, e, hb, fun i hi c hl => ?_⟩
    obtain ⟨cs, h1, _, h3⟩ := hc i _ (List.getElem?_eq_getElem hi)
    rw [List.getD_eq_getElem?_getD, List.getElem?_eq_getElem hi, h3 c hl, h1.2.2, Array.getElem?_toList]
    rfl
end

end Go.Proofs.Ytplldbmjdnikeaa
