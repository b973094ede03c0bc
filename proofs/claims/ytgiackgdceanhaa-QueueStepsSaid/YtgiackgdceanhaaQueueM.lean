/- QueueKeeps: its arguments opened; the law. -/
import Derived.Test.YtgiackgdceanhaaQueueL
import Derived.Test.YtgiackgdceanhaaOpenSig
namespace Go.Proofs.Ytgiackgdceanhaa
set_option linter.unusedVariables false
set_option linter.unusedSimpArgs false
open Go.RowKit Go.WideShapes Go.ChangeShapes

section
variable {H : Type} {enc : TypeId × Value → H} {w : World} {base : Nat} {spare : Nat → Bool} {held : Bool}

theorem open_stepT {fuel : Nat} {cs : List Value} {y : DataW H × List MemPlace} (h : DataW.trod enc Try.prog w base spare held fuel 44 cs = some y) : ∃ x : St, cs = x.cells ∧ x.s.ok := by
  obtain ⟨hl, n, hf⟩ := trod_part Try.underlying44 h
  have hl16 : cs.length = 16 := hl.trans (by kernel_rfl)
  obtain ⟨y0, h0⟩ := hf 0 _ rfl
  obtain ⟨y1, h1⟩ := hf 1 _ rfl
  obtain ⟨y2, h2⟩ := hf 2 _ rfl
  obtain ⟨hlR, m, hfR⟩ := trod_part Try.underlying36 h1
  obtain ⟨y3, h3⟩ := hfR 0 _ rfl
  obtain ⟨y4, h4⟩ := hfR 1 _ rfl
  obtain ⟨k0, e0, _, _⟩ := DataW.trod_int (k := .i64) Try.underlying3 h0
  obtain ⟨k1, e1, _, _⟩ := DataW.trod_int (k := .i64) Try.underlying3 h3
  obtain ⟨k2, e2, _, _⟩ := DataW.trod_string Try.underlying9 h4
  obtain ⟨s, e3, hs⟩ := open_sig h2
  obtain ⟨c0, c1, c2, c3, c4, c5, c6, c7, c8, c9, c10, c11, c12, c13, c14, c15, rfl⟩ := len16 hl16
  clear h hl hl16 hlR hf hfR h0 h1 h2 h3 h4
  have k1 : Try.prog.cellsOf 3 = 1 := by kernel_rfl
  have k3 : Try.prog.cellsOf 9 = 1 := by kernel_rfl
  have k4 : Try.prog.cellsOf 36 = 2 := by kernel_rfl
  have k5 : Try.prog.cellsOf 32 = 13 := by kernel_rfl
  simp [k1, k3, k4, k5] at e0 e1 e2 e3
  subst e0; subst e1; subst e2
  obtain ⟨rfl, rfl, rfl, rfl, rfl, rfl, rfl, rfl, rfl, rfl, rfl, rfl, rfl⟩ := e3
  exact ⟨⟨_, _, _, s⟩, rfl, hs⟩

/-- A list of what exists at each place. -/
theorem choose_list {α : Type} {p : Nat → α → Prop} : ∀ (n : Nat), (∀ i, i < n → ∃ x, p i x) → ∃ l : List α, l.length = n ∧ ∀ i x, l[i]? = some x → p i x
  | 0, _ => ⟨[], rfl, by simp⟩
  | n + 1, h => by
    obtain ⟨l, hl, hp⟩ := choose_list n (fun i hi => h i (by omega))
    obtain ⟨x, hx⟩ := h n (by omega)
    refine ⟨l ++ [x], by simp [hl], fun i y hy => ?_⟩
    rcases Nat.lt_or_ge i n with hi | hi
    · rw [List.getElem?_append_left (by omega)] at hy; exact hp i y hy
    · rw [List.getElem?_append_right (by omega)] at hy
      have : i = n := by
        have := (List.getElem?_eq_some_iff.1 hy).1
        simp at this; omega
      subst this
      simp [hl] at hy
      subst hy; exact hx

/-- A slice whose elements are c cells each, opened: the cells of each element, where its block is. -/
theorem open_rows {P : Program} {α : Type} {T e : TypeId} {c : Nat} (hc0 : 0 < c) (ht : P.underlying T = some (.slice e)) (hc : P.cellsOf e = c) {W : World} {R : α → List Value → Prop}
    (hR : ∀ {fuel : Nat} {cs : List Value} {y : DataW H × List MemPlace}, DataW.trod enc P W 0 (fun _ => true) true fuel e cs = some y → ∃ x, R x cs) {n : Nat} {v : Value} {y : DataW H × List MemPlace}
    (h : DataW.trod enc P W 0 (fun _ => true) true n T [v] = some y) :
    ∃ (A : Option Addr) (cap : Nat) (l : List α), v = .slice A l.length cap ∧ l.length ≤ 9223372036854775807 ∧
      (0 < l.length → ∃ b off, A = some ⟨b, off, none⟩ ∧ b < W.heap.size ∧ ∀ (i : Nat) (x : α), l[i]? = some x → ∃ cs, R x cs ∧ cs.length = c ∧ ∀ j, j < c → W.cell? ⟨b, off + i * c + j, none⟩ = cs[j]?) := by
  rcases Go.Deep.open_slice ht h with ⟨hcs, _⟩ | ⟨a, len, cap, m, n', D, Pl, hcs, _, hl, hm, hmm, _, hx⟩
  · injection hcs with hcs
    exact ⟨none, 0, [], hcs, by simp, fun h => by simp at h⟩
  · injection hcs with hcs
    simp only [if_true] at hmm
    subst hmm
    rw [hc] at hx
    have hE : ∀ i, i < len → ∃ x : α, ∃ cs, R x cs ∧ W.cells? 0 (a.add (i * c)) c = some cs := by
      intro i hi
      obtain ⟨cs', h1, h2⟩ := hx i (by omega)
      obtain ⟨x, hx'⟩ := hR h2
      exact ⟨x, cs', hx', h1⟩
    obtain ⟨l, hll, hlp⟩ := choose_list len hE
    refine ⟨some a, _, l, by rw [hll]; exact hcs, by simp only [maxLen] at hm; omega, fun h0 => ?_⟩
    have hb : ∃ b off, a = ⟨b, off, none⟩ ∧ b < W.heap.size := by
      obtain ⟨cs', h1, _⟩ := hx 0 (by omega)
      obtain ⟨_, hcl, hat⟩ := World.cells?_some h1
      have h2 := hat 0 hc0
      rw [List.getElem?_eq_getElem (by omega)] at h2
      obtain ⟨b, off, sp⟩ := a
      cases sp with
      | some s => simp [Addr.add, World.cell?] at h2; split at h2 <;> simp at h2
      | none =>
        refine ⟨b, off, rfl, ?_⟩
        have := World.block_lt_of_cell? W _ h2
        simpa [Addr.add] using this
    obtain ⟨b, off, rfl, hbl⟩ := hb
    refine ⟨b, off, rfl, hbl, fun i x hi => ?_⟩
    obtain ⟨cs, hRx, hcs'⟩ := hlp i x hi
    obtain ⟨_, hcl, hat⟩ := World.cells?_some hcs'
    refine ⟨cs, hRx, hcl, fun j hj => ?_⟩
    have := hat j hj
    rw [addr_add_none, addr_add_none] at this
    exact this

theorem open_steps {W : World} {n : Nat} {v : Value} {y : DataW H × List MemPlace} (h : DataW.trod enc Try.prog W 0 (fun _ => true) true n 42 [v] = some y) :
    ∃ (A : Option Addr) (cap : Nat) (l : List St), v = .slice A l.length cap ∧ l.length ≤ 9223372036854775807 ∧ ReadsS W A l := by
  obtain ⟨A, cap, l, hv, hm, hx⟩ := open_rows (α := St) (c := 16) (R := fun x cs => cs = x.cells) (by omega) Try.underlying42 (by kernel_rfl) (fun h => by obtain ⟨x, hx, _⟩ := open_stepT h; exact ⟨x, hx⟩) h
  refine ⟨A, cap, l, hv, hm, fun h0 => ?_⟩
  obtain ⟨b, off, e, hb, hi⟩ := hx h0
  refine ⟨b, off, e, hb, fun i x hx j hj => ?_⟩
  obtain ⟨cs, rfl, _, hc⟩ := hi i x hx
  exact hc j hj
end

set_option maxRecDepth 100000 in
set_option maxHeartbeats 1000000 in
theorem keeps_any (a : Option Addr) (cap : Nat) (zs : List St) (W : World) (hR : ReadsS W a zs) :
    Calls Try.prog 4 #[.slice a zs.length cap] W fun e w' => e = .returned (.bool true) ∧ Below W.heap.size W w' := by
  by_cases hz : zs.length ≤ 200
  · exact keeps_main a cap zs W hR hz
  · clear hR
    have h1 : 200 < (zs.length : Int) := by omega
    go_enter Try.func4, Try.ntmps4
    go_wp2_with fail
    refine (queue_new _).mono ?_
    rintro e w1 ⟨q, r, rfl, hq, hQ, hC⟩
    have HC := Lib.hid hC; clear hC hQ
    go_wp2_with fail
    refine (law22_four _).mono ?_
    rintro e w3 ⟨rfl, hC3⟩
    go_wp2_with fail
    go_ret
    exact ⟨rfl, (HC.out.trans hC3).below⟩

section
variable {H : Type} (enc : TypeId × Value → H) (W : World)

theorem queueKeeps_law {v0 : Value} {d0 : DataW H} {p0 : List MemPlace} {base : Nat}
    (h0 : DataW.Trod enc Try.prog W 0 (fun _ => true) true 42 v0 d0 p0) (k0 : Value.okWide Try.prog W .any base 42 v0)
    (_hsz : (DataW.weightsEach Try.prog [42] [d0]).all (· ≤ reachBytes) = true) :
    Calls Try.prog 4 #[v0] W fun e w' => e = .returned (.bool true) ∧ Below W.heap.size W w' := by
  obtain ⟨n0, g0⟩ := h0
  obtain ⟨a0, len0, cap0, rfl⟩ := okWide_slice Try.underlying42 k0
  obtain ⟨A, c, zs, hv, hz, hR⟩ := open_steps g0
  injection hv with e1 e2 e3
  subst e1; subst e2; subst e3
  exact keeps_any _ _ zs W hR
end

end Go.Proofs.Ytgiackgdceanhaa
