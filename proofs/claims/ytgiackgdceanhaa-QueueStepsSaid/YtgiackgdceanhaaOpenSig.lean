/- Arguments opened: numbers of 256 bits, points, signatures. -/
import Derived.Test.YtgiackgdceanhaaQueueC
import Derived.Test.YtgiackgdceanhaaOpen
import Derived.OpenShut
import Derived.Deep.Slices
import Derived.ChangeMaps5
namespace Go.Proofs.Ytgiackgdceanhaa
set_option linter.unusedVariables false
set_option linter.unusedSimpArgs false
open Go.RowKit Go.WideShapes Go.ChangeShapes

section
variable {H : Type} {enc : TypeId × Value → H} {w : World} {base : Nat} {spare : Nat → Bool} {held : Bool}

theorem trod_part {P : Program} {fs : Array Field} {fuel : Nat} {t : TypeId} {cs : List Value} {x : DataW H × List MemPlace} (ht : P.underlying t = some (.struct fs)) (h : DataW.trod enc P w base spare held fuel t cs = some x) :
    cs.length = P.cellsOf t ∧ ∃ n, ∀ (i : Nat) (f : Field), fs[i]? = some f → ∃ y, DataW.trod enc P w base spare held n f.type ((cs.drop f.offset).take (P.cellsOf f.type)) = some y := by
  obtain ⟨xs, n, _, _, hl, hx, hf⟩ := DataW.trod_struct ht h
  refine ⟨hl, n, fun i f hi => ?_⟩
  have hlt : i < fs.size := (Array.getElem?_eq_some_iff.1 hi).1
  have := hf i f hi
  rw [List.getElem?_eq_getElem (by omega)] at this
  exact ⟨_, this⟩

theorem len4 {α : Type} : ∀ {l : List α}, l.length = 4 → ∃ c0 c1 c2 c3, l = [c0, c1, c2, c3]
  | [c0, c1, c2, c3], _ => ⟨c0, c1, c2, c3, rfl⟩
theorem len9 {α : Type} : ∀ {l : List α}, l.length = 9 → ∃ c0 c1 c2 c3 c4 c5 c6 c7 c8, l = [c0, c1, c2, c3, c4, c5, c6, c7, c8]
  | [c0, c1, c2, c3, c4, c5, c6, c7, c8], _ => ⟨c0, c1, c2, c3, c4, c5, c6, c7, c8, rfl⟩
theorem len13 {α : Type} : ∀ {l : List α}, l.length = 13 → ∃ c0 c1 c2 c3 c4 c5 c6 c7 c8 c9 c10 c11 c12, l = [c0, c1, c2, c3, c4, c5, c6, c7, c8, c9, c10, c11, c12]
  | [c0, c1, c2, c3, c4, c5, c6, c7, c8, c9, c10, c11, c12], _ => ⟨c0, c1, c2, c3, c4, c5, c6, c7, c8, c9, c10, c11, c12, rfl⟩
theorem len16 {α : Type} : ∀ {l : List α}, l.length = 16 → ∃ c0 c1 c2 c3 c4 c5 c6 c7 c8 c9 c10 c11 c12 c13 c14 c15, l = [c0, c1, c2, c3, c4, c5, c6, c7, c8, c9, c10, c11, c12, c13, c14, c15]
  | [c0, c1, c2, c3, c4, c5, c6, c7, c8, c9, c10, c11, c12, c13, c14, c15], _ => ⟨c0, c1, c2, c3, c4, c5, c6, c7, c8, c9, c10, c11, c12, c13, c14, c15, rfl⟩

/-- A limb of 64 bits. -/
def U64 (x : Int) : Prop := 0 ≤ x ∧ x < 18446744073709551616

theorem u64_of_wf {x : Int} (h : (Lit.int .u64 x).wf = true) : U64 x := by
  simp [Lit.wf, IntKind.min, IntKind.max, IntKind.signed, IntKind.bits] at h
  exact ⟨h.1, by omega⟩

theorem open_num {fuel : Nat} {cs : List Value} {x : DataW H × List MemPlace} (h : DataW.trod enc Try.prog w base spare held fuel 28 cs = some x) :
    ∃ a b c d : Int, cs = [.int .u64 a, .int .u64 b, .int .u64 c, .int .u64 d] ∧ U64 a ∧ U64 b ∧ U64 c ∧ U64 d := by
  obtain ⟨xs, n, _, _, hl, hx, hf⟩ := DataW.trod_array (n := 4) (e := 26) Try.underlying28 h
  have hl4 : cs.length = 4 := hl.trans (by kernel_rfl)
  have h1 : Try.prog.cellsOf 26 = 1 := by kernel_rfl
  obtain ⟨c0, c1, c2, c3, rfl⟩ := len4 hl4
  · clear h hl hl4
    have f : ∀ i (hi : i < 4), ∃ k, [c0, c1, c2, c3][i]? = some (.int .u64 k) ∧ U64 k := by
      intro i hi
      have h2 := hf i hi
      rw [h1, List.getElem?_eq_getElem (by omega)] at h2
      obtain ⟨k, hk, _, hw⟩ := DataW.trod_int (k := .u64) Try.underlying26 h2
      refine ⟨k, ?_, u64_of_wf hw⟩
      have h3 := congrArg (·[0]?) hk
      simpa using h3
    obtain ⟨a, ha, ua⟩ := f 0 (by omega)
    obtain ⟨b, hb, ub⟩ := f 1 (by omega)
    obtain ⟨c, hc, uc⟩ := f 2 (by omega)
    obtain ⟨d, hd, ud⟩ := f 3 (by omega)
    simp at ha hb hc hd
    subst ha; subst hb; subst hc; subst hd
    exact ⟨a, b, c, d, rfl, ua, ub, uc, ud⟩

structure Sg.ok (s : Sg) : Prop where
  x0 : U64 s.x0
  x1 : U64 s.x1
  x2 : U64 s.x2
  x3 : U64 s.x3
  y0 : U64 s.y0
  y1 : U64 s.y1
  y2 : U64 s.y2
  y3 : U64 s.y3
  z0 : U64 s.z0
  z1 : U64 s.z1
  z2 : U64 s.z2
  z3 : U64 s.z3

theorem open_sig {fuel : Nat} {cs : List Value} {x : DataW H × List MemPlace} (h : DataW.trod enc Try.prog w base spare held fuel 32 cs = some x) : ∃ s : Sg, cs = [.int .u64 s.x0, .int .u64 s.x1, .int .u64 s.x2, .int .u64 s.x3, .int .u64 s.y0, .int .u64 s.y1, .int .u64 s.y2, .int .u64 s.y3, .bool s.inf, .int .u64 s.z0, .int .u64 s.z1, .int .u64 s.z2, .int .u64 s.z3] ∧ s.ok := by
  obtain ⟨hl, n, hf⟩ := trod_part Try.underlying32 h
  have hl13 : cs.length = 13 := hl.trans (by kernel_rfl)
  obtain ⟨yR, hR⟩ := hf 0 _ rfl
  obtain ⟨yZ, hZ⟩ := hf 1 _ rfl
  obtain ⟨hlR, m, hfR⟩ := trod_part Try.underlying30 hR
  obtain ⟨y0, hX⟩ := hfR 0 _ rfl
  obtain ⟨y1, hY⟩ := hfR 1 _ rfl
  obtain ⟨y2, hI⟩ := hfR 2 _ rfl
  obtain ⟨z0, z1, z2, z3, eZ, uz0, uz1, uz2, uz3⟩ := open_num hZ
  obtain ⟨x0, x1, x2, x3, eX, ux0, ux1, ux2, ux3⟩ := open_num hX
  obtain ⟨a0, a1, a2, a3, eY, uy0, uy1, uy2, uy3⟩ := open_num hY
  obtain ⟨b, eI, _⟩ := DataW.trod_bool Try.underlying4 hI
  obtain ⟨c0, c1, c2, c3, c4, c5, c6, c7, c8, c9, c10, c11, c12, rfl⟩ := len13 hl13
  · clear h hl hl13 hlR hf hfR hR hZ hX hY hI
    have k4 : Try.prog.cellsOf 28 = 4 := by kernel_rfl
    have k9 : Try.prog.cellsOf 30 = 9 := by kernel_rfl
    have k1 : Try.prog.cellsOf 4 = 1 := by kernel_rfl
    simp [k4, k9, k1] at eZ eX eY eI
    obtain ⟨rfl, rfl, rfl, rfl⟩ := eZ
    obtain ⟨rfl, rfl, rfl, rfl⟩ := eX
    obtain ⟨rfl, rfl, rfl, rfl⟩ := eY
    subst eI
    exact ⟨⟨x0, x1, x2, x3, a0, a1, a2, a3, b, z0, z1, z2, z3⟩, rfl, ⟨ux0, ux1, ux2, ux3, uy0, uy1, uy2, uy3, uz0, uz1, uz2, uz3⟩⟩

end

end Go.Proofs.Ytgiackgdceanhaa
