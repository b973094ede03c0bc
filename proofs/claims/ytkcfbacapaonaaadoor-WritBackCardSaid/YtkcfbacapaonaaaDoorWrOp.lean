/- Choices and scripts that came in, opened. -/
import Derived.Test.YtkcfbacapaonaaaDoorWrN
import Derived.OpenShut
import Derived.Deep.Slices
import Derived.ChangeMaps5
import Derived.Below
namespace Go.Proofs.YtkcfbacapaonaaaDoor
set_option linter.unusedVariables false
set_option linter.unusedSimpArgs false
open Go.RowKit Go.WideShapes Go.ChangeShapes Go.Lib

section
variable {H : Type} {enc : TypeId × Value → H} {w : World} {base : Nat} {spare : Nat → Bool} {held : Bool}

theorem trod_part {P : Program} {fs : Array Field} {fuel : Nat} {t : TypeId} {cs : List Value} {x : DataW H × List MemPlace} (ht : P.underlying t = some (.struct fs)) (h : DataW.trod enc P w base spare held fuel t cs = some x) :
    cs.length = P.cellsOf t ∧ ∃ n, ∀ (i : Nat) (f : Field), fs[i]? = some f → ∃ y, DataW.trod enc P w base spare held n f.type ((cs.drop f.offset).take (P.cellsOf f.type)) = some y ∧ ∀ k ∈ y.1.weights P f.type, k ∈ x.1.weights P t := by
  obtain ⟨xs, n, _, ex, hl, hx, hf⟩ := DataW.trod_struct ht h
  refine ⟨hl, n, fun i f hi => ?_⟩
  have hlt : i < fs.size := (Array.getElem?_eq_some_iff.1 hi).1
  have := hf i f hi
  rw [List.getElem?_eq_getElem (by omega)] at this
  refine ⟨_, this, fun k hk => ?_⟩
  subst ex
  simp only [DataW.weights, ht]
  exact DataW.weights_mem_each (j := i) (by simp [hi]) (by simp [List.getElem?_eq_getElem (show i < xs.length by omega)]) k hk
theorem weights_mem_all {P : Program} {e : TypeId} : ∀ {ds : List (DataW H)} {d : DataW H}, d ∈ ds → ∀ k ∈ d.weights P e, k ∈ DataW.weightsAll P e ds
  | a :: r, d, hd, k, hk => by
    rw [DataW.weightsAll]
    rcases List.mem_cons.1 hd with rfl | hd
    · exact List.mem_append_left _ hk
    · exact List.mem_append_right _ (weights_mem_all hd k hk)
theorem len5 {α : Type} : ∀ {l : List α}, l.length = 5 → ∃ c0 c1 c2 c3 c4, l = [c0, c1, c2, c3, c4]
  | [c0, c1, c2, c3, c4], _ => ⟨c0, c1, c2, c3, c4, rfl⟩
theorem len6 {α : Type} : ∀ {l : List α}, l.length = 6 → ∃ c0 c1 c2 c3 c4 c5, l = [c0, c1, c2, c3, c4, c5]
  | [c0, c1, c2, c3, c4, c5], _ => ⟨c0, c1, c2, c3, c4, c5, rfl⟩
theorem in64_of_wf {x : Int} (h : (Lit.int .i64 x).wf = true) : In64 x := by
  simp [Lit.wf, IntKind.min, IntKind.max, IntKind.signed, IntKind.bits] at h
  exact ⟨by omega, by omega⟩
/-- Bytes as a list. -/
theorem str_list (s : ByteArray) : s = ⟨s.data.toList.toArray⟩ := by
  obtain ⟨⟨l⟩⟩ := s; rfl

theorem addr_addO (b off i : Nat) : (⟨b, off, none⟩ : Addr).add i = ⟨b, off + i, none⟩ := by unfold Addr.add; split <;> simp_all
/-- A list of what exists at each place. -/
theorem choose_list {α : Type} {p : Nat → α → Prop} : ∀ (n : Nat), (∀ i, i < n → ∃ x, p i x) → ∃ l : List α, l.length = n ∧ ∀ i x, l[i]? = some x → p i x
  | 0, _ => ⟨[], rfl, by simp⟩
  | n + 1, h => by
    obtain ⟨l, hl, hp⟩ := choose_list n (fun i hi => h i (by omega))
    obtain ⟨x, hx⟩ := h n (by omega)
    refine ⟨l ++ [x], by simp [hl], fun i y hy => ?_⟩
    rcases Nat.lt_or_ge i n with hi | hi
    · rw [List.getElem?_append_left (by omega)] at hy; exact hp i y hy
    · rw [List.getElem?_append_right (by omega)] at hy
      have : i = n := by
        have := (List.getElem?_eq_some_iff.1 hy).1
        simp at this; omega
      subst this
      simp [hl] at hy
      subst hy; exact hx

/-- A slice whose elements are c cells each, opened: the cells of each element, where its block is. -/
theorem open_rows {P : Program} {α : Type} {T e : TypeId} {c : Nat} (hc0 : 0 < c) (ht : P.underlying T = some (.slice e)) (hc : P.cellsOf e = c) {W : World} {R : α → List Value → DataW H → Prop}
    (hR : ∀ {fuel : Nat} {cs : List Value} {y : DataW H × List MemPlace}, DataW.trod enc P W 0 (fun _ => true) true fuel e cs = some y → ∃ x, R x cs y.1) {n : Nat} {v : Value} {y : DataW H × List MemPlace}
    (h : DataW.trod enc P W 0 (fun _ => true) true n T [v] = some y) :
    ∃ (A : Option Addr) (cap : Nat) (l : List α), v = .slice A l.length cap ∧ l.length ≤ 9223372036854775807 ∧
      (0 < l.length → ∃ b off, A = some ⟨b, off, none⟩ ∧ b < W.heap.size ∧ ∀ (i : Nat) (x : α), l[i]? = some x → ∃ cs d, R x cs d ∧ (∀ k ∈ d.weights P e, k ∈ y.1.weights P T) ∧ cs.length = c ∧ ∀ j, j < c → W.cell? ⟨b, off + i * c + j, none⟩ = cs[j]?) := by
  rcases Go.Deep.open_slice ht h with ⟨hcs, _⟩ | ⟨a, len, cap, m, n', D, Pl, hcs, _, hl, hm, hmm, ey, hx⟩
  · injection hcs with hcs
    exact ⟨none, 0, [], hcs, by simp, fun h => by simp at h⟩
  · injection hcs with hcs
    simp only [if_true] at hmm
    subst hmm
    rw [hc] at hx
    have hE : ∀ i, i < len → ∃ x : α, ∃ cs d, R x cs d ∧ (∀ k ∈ d.weights P e, k ∈ y.1.weights P T) ∧ W.cells? 0 (a.add (i * c)) c = some cs := by
      intro i hi
      obtain ⟨cs', h1, h2⟩ := hx i (by omega)
      obtain ⟨x, hx'⟩ := hR h2
      refine ⟨x, cs', D i, hx', fun k hk => ?_, h1⟩
      rw [ey]
      simp only [DataW.weights, ht]
      exact List.mem_cons_of_mem _ (List.mem_append_left _ (weights_mem_all (List.mem_map.2 ⟨i, List.mem_range.2 hi, rfl⟩) k hk))
    obtain ⟨l, hll, hlp⟩ := choose_list len hE
    refine ⟨some a, _, l, by rw [hll]; exact hcs, by simp only [maxLen] at hm; omega, fun h0 => ?_⟩
    have hb : ∃ b off, a = ⟨b, off, none⟩ ∧ b < W.heap.size := by
      obtain ⟨cs', h1, _⟩ := hx 0 (by omega)
      obtain ⟨_, hcl, hat⟩ := World.cells?_some h1
      have h2 := hat 0 hc0
      rw [List.getElem?_eq_getElem (by omega)] at h2
      obtain ⟨b, off, sp⟩ := a
      cases sp with
      | some s => simp [Addr.add, World.cell?] at h2; split at h2 <;> simp at h2
      | none =>
        refine ⟨b, off, rfl, ?_⟩
        have := World.block_lt_of_cell? W _ h2
        simpa [Addr.add] using this
    obtain ⟨b, off, rfl, hbl⟩ := hb
    refine ⟨b, off, rfl, hbl, fun i x hi => ?_⟩
    obtain ⟨cs, d, hRx, hw, hcs'⟩ := hlp i x hi
    obtain ⟨_, hcl, hat⟩ := World.cells?_some hcs'
    refine ⟨cs, d, hRx, hw, hcl, fun j hj => ?_⟩
    have := hat j hj
    rw [addr_addO, addr_addO] at this
    exact this

theorem open_choice {fuel : Nat} {cs : List Value} {x : DataW H × List MemPlace} (h : DataW.trod enc Tryd.prog w base spare held fuel 61 cs = some x) :
    ∃ c : Ch, c.ok ∧ c.m.length ∈ x.1.weights Tryd.prog 61 ∧ cs = (cv c).toList := by
  obtain ⟨hl, n, hf⟩ := trod_part Tryd.underlying61 h
  have hl6 : cs.length = 6 := hl.trans (by kernel_rfl)
  obtain ⟨y0, h0, q0⟩ := hf 0 _ rfl
  obtain ⟨y1, h1, q1⟩ := hf 1 _ rfl
  obtain ⟨y2, h2, q2⟩ := hf 2 _ rfl
  obtain ⟨y3, h3, q3⟩ := hf 3 _ rfl
  obtain ⟨y4, h4, q4⟩ := hf 4 _ rfl
  obtain ⟨y5, h5, q5⟩ := hf 5 _ rfl
  obtain ⟨z0, e0, _, w0⟩ := DataW.trod_int (k := .i64) Tryd.underlying3 h0
  obtain ⟨z1, e1, _, w1⟩ := DataW.trod_int (k := .i64) Tryd.underlying3 h1
  obtain ⟨z2, e2, _, w2⟩ := DataW.trod_int (k := .i64) Tryd.underlying3 h2
  obtain ⟨z3, e3, _, w3⟩ := DataW.trod_int (k := .i64) Tryd.underlying3 h3
  obtain ⟨z4, e4, _, w4⟩ := DataW.trod_int (k := .i64) Tryd.underlying3 h4
  obtain ⟨s, e5, rfl, w5⟩ := DataW.trod_string Tryd.underlying9 h5
  obtain ⟨c0, c1, c2, c3, c4, c5, rfl⟩ := len6 hl6
  clear h hl hl6 hf h0 h1 h2 h3 h4 h5
  have k1 : Tryd.prog.cellsOf 3 = 1 := by kernel_rfl
  have k2 : Tryd.prog.cellsOf 9 = 1 := by kernel_rfl
  simp [k1, k2] at e0 e1 e2 e3 e4 e5
  subst e0; subst e1; subst e2; subst e3; subst e4; subst e5
  refine ⟨⟨z0, z1, z2, z3, z4, s.data.toList⟩, ⟨in64_of_wf w0, in64_of_wf w1, in64_of_wf w2, in64_of_wf w3, in64_of_wf w4⟩, q5 _ (by simp [DataW.weights]), ?_⟩
  show _ = [_, _, _, _, _, _]
  rw [← str_list s]

theorem open_choices {W : World} {n : Nat} {v : Value} {y : DataW H × List MemPlace} (h : DataW.trod enc Tryd.prog W 0 (fun _ => true) true n 22 [v] = some y) :
    ∃ (A : Option Addr) (cap : Nat) (l : List Ch), v = .slice A l.length cap ∧ l.length ≤ 9223372036854775807 ∧ (∀ x ∈ l, x.ok ∧ x.m.length ∈ y.1.weights Tryd.prog 22) ∧ ReadsC W A l := by
  obtain ⟨A, cap, l, hv, hm, hx⟩ := open_rows (α := Ch) (c := 6) (R := fun c cs d => c.ok ∧ c.m.length ∈ d.weights Tryd.prog 61 ∧ cs = (cv c).toList) (by omega) Tryd.underlying22 (by kernel_rfl) (fun h => open_choice h) h
  refine ⟨A, cap, l, hv, hm, fun x hxl => ?_, fun h0 => ?_⟩
  · obtain ⟨i, hi⟩ := List.mem_iff_getElem?.1 hxl
    obtain ⟨b, off, e, hb, hc⟩ := hx (by cases l <;> simp_all)
    obtain ⟨cs, d, h1, h2, _⟩ := hc i _ hi
    exact ⟨h1.1, h2 _ h1.2.1⟩
  · obtain ⟨b, off, e, hb, hc⟩ := hx h0
    refine ⟨b, off, e, hb, fun i x hi c hl => ?_⟩
    obtain ⟨cs, d, h1, _, _, h3⟩ := hc i _ hi
    rw [h3 c hl, h1.2.2]
    exact Array.getElem?_toList

set_option maxRecDepth 100000 in
/-- A script that came in. -/
theorem open_script {W : World} {r : Reach} {b0 : Nat} {v : Value} {d : DataW H} {p : List MemPlace} (k : Value.okWide Tryd.prog W r b0 24 v) (h : DataW.Trod enc Tryd.prog W 0 (fun _ => true) true 24 v d p) (hw : ∀ k ∈ d.weights Tryd.prog 24, k ≤ reachBytes) :
    ∃ (s : Sc) (A : Option Addr) (cap : Nat), v = .agg (scv s (.slice A s.l.length cap)) ∧ s.ok ∧ s.seed.length ≤ reachBytes ∧ s.l.length ≤ 9223372036854775807 ∧ (∀ x ∈ s.l, x.m.length ≤ reachBytes) ∧ ReadsC W A s.l := by
  obtain ⟨cs, rfl, hsz⟩ := okWide_struct Tryd.underlying24 k
  obtain ⟨n, hn⟩ := h
  obtain ⟨hl, n, hf⟩ := trod_part Tryd.underlying24 hn
  have hl5 : cs.toList.length = 5 := hl.trans (by kernel_rfl)
  obtain ⟨y0, h0, q0⟩ := hf 0 _ rfl
  obtain ⟨y1, h1, q1⟩ := hf 1 _ rfl
  obtain ⟨y2, h2, q2⟩ := hf 2 _ rfl
  obtain ⟨y3, h3, q3⟩ := hf 3 _ rfl
  obtain ⟨y4, h4, q4⟩ := hf 4 _ rfl
  obtain ⟨z0, e0, _, w0⟩ := DataW.trod_int (k := .i64) Tryd.underlying3 h0
  obtain ⟨z1, e1, _, w1⟩ := DataW.trod_int (k := .i64) Tryd.underlying3 h1
  obtain ⟨z2, e2, _, w2⟩ := DataW.trod_int (k := .i64) Tryd.underlying3 h2
  obtain ⟨s, e3, rfl, w3⟩ := DataW.trod_string Tryd.underlying9 h3
  obtain ⟨c0, c1, c2, c3, c4, hcs⟩ := len5 hl5
  have ec : cs = #[c0, c1, c2, c3, c4] := Array.toList_inj.1 hcs
  subst ec
  have k1 : Tryd.prog.cellsOf 3 = 1 := by kernel_rfl
  have k2 : Tryd.prog.cellsOf 9 = 1 := by kernel_rfl
  have k3 : Tryd.prog.cellsOf 22 = 1 := by kernel_rfl
  clear hn hl hl5 hf h0 h1 h2 h3 hcs k
  simp [k1, k2, k3, Value.cells] at e0 e1 e2 e3 h4
  subst e0; subst e1; subst e2; subst e3
  obtain ⟨A, cap, l, rfl, hm, hk, hR⟩ := open_choices h4
  refine ⟨⟨z0, z1, z2, s.data.toList, l⟩, A, cap, ?_, ⟨in64_of_wf w0, in64_of_wf w1, in64_of_wf w2, fun x hx => (hk x hx).1⟩, hw _ (q3 _ (by simp [DataW.weights])), hm, fun x hx => hw _ (q4 _ (hk x hx).2), hR⟩
  show _ = Value.agg #[_, _, _, _, _]
  rw [← str_list s]
end

end Go.Proofs.YtkcfbacapaonaaaDoor
