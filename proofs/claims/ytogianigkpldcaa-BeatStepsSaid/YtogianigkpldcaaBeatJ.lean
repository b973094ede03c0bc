/- The laws' steps: read, and opened. -/
import Derived.Test.YtogianigkpldcaaBeatG
import Derived.OpenShut
import Derived.Deep.Slices
import Derived.ChangeMaps5
namespace Go.Proofs.Ytogianigkpldcaa
set_option linter.unusedVariables false
set_option linter.unusedSimpArgs false
open Go.RowKit Go.WideShapes Go.ChangeShapes

/-- A step of the laws. -/
structure St3 where
  what : Int
  node : Int
  by_ : Int
def St3.cells (x : St3) : List Value := [.int .i64 x.what, .int .i64 x.node, .int .i64 x.by_]

def ReadsT (w : World) (A : Option Addr) (l : List St3) : Prop :=
  0 < l.length → ∃ b off, A = some ⟨b, off, none⟩ ∧ b < w.heap.size ∧ ∀ (i : Nat) (x : St3), l[i]? = some x → ∀ j, j < 3 → w.cell? ⟨b, off + i * 3 + j, none⟩ = x.cells[j]?
theorem ReadsT.chg {w w' : World} {A : Option Addr} {l : List St3} (h : ReadsT w A l) (hc : Chg [] w w') : ReadsT w' A l := fun h0 => by
  obtain ⟨b, off, e, hb, hi⟩ := h h0
  exact ⟨b, off, e, Nat.lt_of_lt_of_le hb hc.size, fun i x hx j hj => (World.cell?_of_block (hc.block b hb (by simp))).trans (hi i x hx j hj)⟩

section
variable {H : Type} {enc : TypeId × Value → H} {w : World} {base : Nat} {spare : Nat → Bool} {held : Bool}

theorem trod_part {P : Program} {fs : Array Field} {fuel : Nat} {t : TypeId} {cs : List Value} {x : DataW H × List MemPlace} (ht : P.underlying t = some (.struct fs)) (h : DataW.trod enc P w base spare held fuel t cs = some x) :
    cs.length = P.cellsOf t ∧ ∃ n, ∀ (i : Nat) (f : Field), fs[i]? = some f → ∃ y, DataW.trod enc P w base spare held n f.type ((cs.drop f.offset).take (P.cellsOf f.type)) = some y := by
  obtain ⟨xs, n, _, _, hl, hx, hf⟩ := DataW.trod_struct ht h
  refine ⟨hl, n, fun i f hi => ?_⟩
  have hlt : i < fs.size := (Array.getElem?_eq_some_iff.1 hi).1
  have := hf i f hi
  rw [List.getElem?_eq_getElem (by omega)] at this
  exact ⟨_, this⟩

theorem len3 {α : Type} : ∀ {l : List α}, l.length = 3 → ∃ c0 c1 c2, l = [c0, c1, c2]
  | [c0, c1, c2], _ => ⟨c0, c1, c2, rfl⟩

theorem open_stepT {fuel : Nat} {cs : List Value} {y : DataW H × List MemPlace} (h : DataW.trod enc Try.prog w base spare held fuel 29 cs = some y) : ∃ x : St3, cs = x.cells := by
  obtain ⟨hl, n, hf⟩ := trod_part Try.underlying29 h
  have hl3 : cs.length = 3 := hl.trans (by kernel_rfl)
  obtain ⟨y0, h0⟩ := hf 0 _ rfl
  obtain ⟨y1, h1⟩ := hf 1 _ rfl
  obtain ⟨y2, h2⟩ := hf 2 _ rfl
  obtain ⟨k0, e0, _, _⟩ := DataW.trod_int (k := .i64) Try.underlying3 h0
  obtain ⟨k1, e1, _, _⟩ := DataW.trod_int (k := .i64) Try.underlying3 h1
  obtain ⟨k2, e2, _, _⟩ := DataW.trod_int (k := .i64) Try.underlying3 h2
  obtain ⟨c0, c1, c2, rfl⟩ := len3 hl3
  clear h hl hl3 hf h0 h1 h2
  have c1 : Try.prog.cellsOf 3 = 1 := by kernel_rfl
  simp [c1] at e0 e1 e2
  subst e0; subst e1; subst e2
  exact ⟨⟨_, _, _⟩, rfl⟩

/-- A list of what exists at each place. -/
theorem choose_list {α : Type} {p : Nat → α → Prop} : ∀ (n : Nat), (∀ i, i < n → ∃ x, p i x) → ∃ l : List α, l.length = n ∧ ∀ i x, l[i]? = some x → p i x
  | 0, _ => ⟨[], rfl, by simp⟩
  | n + 1, h => by
    obtain ⟨l, hl, hp⟩ := choose_list n (fun i hi => h i (by omega))
    obtain ⟨x, hx⟩ := h n (by omega)
    refine ⟨l ++ [x], by simp [hl], fun i y hy => ?_⟩
    rcases Nat.lt_or_ge i n with hi | hi
    · rw [List.getElem?_append_left (by omega)] at hy; exact hp i y hy
    · rw [List.getElem?_append_right (by omega)] at hy
      have : i = n := by
        have := (List.getElem?_eq_some_iff.1 hy).1
        simp at this; omega
      subst this
      simp [hl] at hy
      subst hy; exact hx

/-- A slice whose elements are c cells each, opened: the cells of each element, where its block is. -/
theorem open_rows {P : Program} {α : Type} {T e : TypeId} {c : Nat} (hc0 : 0 < c) (ht : P.underlying T = some (.slice e)) (hc : P.cellsOf e = c) {W : World} {R : α → List Value → Prop}
    (hR : ∀ {fuel : Nat} {cs : List Value} {y : DataW H × List MemPlace}, DataW.trod enc P W 0 (fun _ => true) true fuel e cs = some y → ∃ x, R x cs) {n : Nat} {v : Value} {y : DataW H × List MemPlace}
    (h : DataW.trod enc P W 0 (fun _ => true) true n T [v] = some y) :
    ∃ (A : Option Addr) (cap : Nat) (l : List α), v = .slice A l.length cap ∧ l.length ≤ 9223372036854775807 ∧
      (0 < l.length → ∃ b off, A = some ⟨b, off, none⟩ ∧ b < W.heap.size ∧ ∀ (i : Nat) (x : α), l[i]? = some x → ∃ cs, R x cs ∧ cs.length = c ∧ ∀ j, j < c → W.cell? ⟨b, off + i * c + j, none⟩ = cs[j]?) := by
  rcases Go.Deep.open_slice ht h with ⟨hcs, _⟩ | ⟨a, len, cap, m, n', D, Pl, hcs, _, hl, hm, hmm, _, hx⟩
  · injection hcs with hcs
    exact ⟨none, 0, [], hcs, by simp, fun h => by simp at h⟩
  · injection hcs with hcs
    simp only [if_true] at hmm
    subst hmm
    rw [hc] at hx
    have hE : ∀ i, i < len → ∃ x : α, ∃ cs, R x cs ∧ W.cells? 0 (a.add (i * c)) c = some cs := by
      intro i hi
      obtain ⟨cs', h1, h2⟩ := hx i (by omega)
      obtain ⟨x, hx'⟩ := hR h2
      exact ⟨x, cs', hx', h1⟩
    obtain ⟨l, hll, hlp⟩ := choose_list len hE
    refine ⟨some a, _, l, by rw [hll]; exact hcs, by simp only [maxLen] at hm; omega, fun h0 => ?_⟩
    have hb : ∃ b off, a = ⟨b, off, none⟩ ∧ b < W.heap.size := by
      obtain ⟨cs', h1, _⟩ := hx 0 (by omega)
      obtain ⟨_, hcl, hat⟩ := World.cells?_some h1
      have h2 := hat 0 hc0
      rw [List.getElem?_eq_getElem (by omega)] at h2
      obtain ⟨b, off, sp⟩ := a
      cases sp with
      | some s => simp [Addr.add, World.cell?] at h2; split at h2 <;> simp at h2
      | none =>
        refine ⟨b, off, rfl, ?_⟩
        have := World.block_lt_of_cell? W _ h2
        simpa [Addr.add] using this
    obtain ⟨b, off, rfl, hbl⟩ := hb
    refine ⟨b, off, rfl, hbl, fun i x hi => ?_⟩
    obtain ⟨cs, hRx, hcs'⟩ := hlp i x hi
    obtain ⟨_, hcl, hat⟩ := World.cells?_some hcs'
    refine ⟨cs, hRx, hcl, fun j hj => ?_⟩
    have := hat j hj
    rw [addr_add_none, addr_add_none] at this
    exact this

theorem open_steps {W : World} {n : Nat} {v : Value} {y : DataW H × List MemPlace} (h : DataW.trod enc Try.prog W 0 (fun _ => true) true n 22 [v] = some y) :
    ∃ (A : Option Addr) (cap : Nat) (l : List St3), v = .slice A l.length cap ∧ l.length ≤ 9223372036854775807 ∧ ReadsT W A l := by
  obtain ⟨A, cap, l, hv, hm, hx⟩ := open_rows (α := St3) (c := 3) (R := fun x cs => cs = x.cells) (by omega) Try.underlying22 (by kernel_rfl) (fun h => by obtain ⟨x, hx⟩ := open_stepT h; exact ⟨x, hx⟩) h
  refine ⟨A, cap, l, hv, hm, fun h0 => ?_⟩
  obtain ⟨b, off, e, hb, hi⟩ := hx h0
  refine ⟨b, off, e, hb, fun i x hx j hj => ?_⟩
  obtain ⟨cs, rfl, _, hc⟩ := hi i x hx
  exact hc j hj
end

end Go.Proofs.Ytogianigkpldcaa
