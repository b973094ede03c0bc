/- Arguments opened: numbers of 256 bits, points; and which points are of the curve. -/
import Derived.Test.YtplldbmjdnikeaaRbN
import Derived.OpenShut
import Derived.Deep.Slices
import Derived.ChangeMaps5
import Derived.Below
namespace Go.Proofs.Ytplldbmjdnikeaa
set_option linter.unusedVariables false
set_option linter.unusedSimpArgs false
open Go.RowKit Go.WideShapes Go.ChangeShapes

section
variable {H : Type} {enc : TypeId × Value → H} {w : World} {base : Nat} {spare : Nat → Bool} {held : Bool}

theorem trod_part {P : Program} {fs : Array Field} {fuel : Nat} {t : TypeId} {cs : List Value} {x : DataW H × List MemPlace} (ht : P.underlying t = some (.struct fs)) (h : DataW.trod enc P w base spare held fuel t cs = some x) :
    cs.length = P.cellsOf t ∧ ∃ n, ∀ (i : Nat) (f : Field), fs[i]? = some f → ∃ y, DataW.trod enc P w base spare held n f.type ((cs.drop f.offset).take (P.cellsOf f.type)) = some y := by
  obtain ⟨xs, n, _, _, hl, hx, hf⟩ := DataW.trod_struct ht h
  refine ⟨hl, n, fun i f hi => ?_⟩
  have hlt : i < fs.size := (Array.getElem?_eq_some_iff.1 hi).1
  have := hf i f hi
  rw [List.getElem?_eq_getElem (by omega)] at this
  exact ⟨_, this⟩

theorem len4 {α : Type} : ∀ {l : List α}, l.length = 4 → ∃ c0 c1 c2 c3, l = [c0, c1, c2, c3]
  | [c0, c1, c2, c3], _ => ⟨c0, c1, c2, c3, rfl⟩
theorem len9 {α : Type} : ∀ {l : List α}, l.length = 9 → ∃ c0 c1 c2 c3 c4 c5 c6 c7 c8, l = [c0, c1, c2, c3, c4, c5, c6, c7, c8]
  | [c0, c1, c2, c3, c4, c5, c6, c7, c8], _ => ⟨c0, c1, c2, c3, c4, c5, c6, c7, c8, rfl⟩

theorem u64_of_wf {x : Int} (h : (Lit.int .u64 x).wf = true) : 0 ≤ x ∧ x < 18446744073709551616 := by
  simp [Lit.wf, IntKind.min, IntKind.max, IntKind.signed, IntKind.bits] at h
  exact ⟨h.1, by omega⟩

/-- Four limbs are a number. -/
theorem four_num {a b c d : Int} (ha : 0 ≤ a ∧ a < 18446744073709551616) (hb : 0 ≤ b ∧ b < 18446744073709551616) (hc : 0 ≤ c ∧ c < 18446744073709551616) (hd : 0 ≤ d ∧ d < 18446744073709551616) :
    ∃ n : Nat, n < B6 ^ 4 ∧ a = (lm n 0 : Nat) ∧ b = (lm n 1 : Nat) ∧ c = (lm n 2 : Nat) ∧ d = (lm n 3 : Nat) := by
  have hB : B6 = 18446744073709551616 := rfl
  let o : Nat → Nat := fun k => match k with | 0 => a.toNat | 1 => b.toNat | 2 => c.toNat | _ => d.toNat
  have ho : ∀ k, k < 4 → o k < B6 := by
    intro k hk
    have : k = 0 ∨ k = 1 ∨ k = 2 ∨ k = 3 := by omega
    rcases this with rfl | rfl | rfl | rfl
    · show a.toNat < B6; omega
    · show b.toNat < B6; omega
    · show c.toNat < B6; omega
    · show d.toNat < B6; omega
  refine ⟨val 4 o, val_lt 4 o ho, ?_, ?_, ?_, ?_⟩
  · rw [lm_val 4 o ho 0 (by omega)]; show a = (a.toNat : Nat); omega
  · rw [lm_val 4 o ho 1 (by omega)]; show b = (b.toNat : Nat); omega
  · rw [lm_val 4 o ho 2 (by omega)]; show c = (c.toNat : Nat); omega
  · rw [lm_val 4 o ho 3 (by omega)]; show d = (d.toNat : Nat); omega

theorem open_num {fuel : Nat} {cs : List Value} {x : DataW H × List MemPlace} (h : DataW.trod enc Try.prog w base spare held fuel 24 cs = some x) :
    ∃ n : Nat, n < B6 ^ 4 ∧ cs = [.int .u64 (lm n 0 : Nat), .int .u64 (lm n 1 : Nat), .int .u64 (lm n 2 : Nat), .int .u64 (lm n 3 : Nat)] := by
  obtain ⟨xs, n, _, _, hl, hx, hf⟩ := DataW.trod_array (n := 4) (e := 22) Try.underlying24 h
  have hl4 : cs.length = 4 := hl.trans (by kernel_rfl)
  have h1 : Try.prog.cellsOf 22 = 1 := by kernel_rfl
  obtain ⟨c0, c1, c2, c3, rfl⟩ := len4 hl4
  · clear h hl hl4
    have f : ∀ i (hi : i < 4), ∃ k, [c0, c1, c2, c3][i]? = some (.int .u64 k) ∧ (0 ≤ k ∧ k < 18446744073709551616) := by
      intro i hi
      have h2 := hf i hi
      rw [h1, List.getElem?_eq_getElem (by omega)] at h2
      obtain ⟨k, hk, _, hw⟩ := DataW.trod_int (k := .u64) Try.underlying22 h2
      refine ⟨k, ?_, u64_of_wf hw⟩
      have h3 := congrArg (·[0]?) hk
      simpa using h3
    obtain ⟨a, ha, ua⟩ := f 0 (by omega)
    obtain ⟨b, hb, ub⟩ := f 1 (by omega)
    obtain ⟨c, hc, uc⟩ := f 2 (by omega)
    obtain ⟨d, hd, ud⟩ := f 3 (by omega)
    simp at ha hb hc hd
    obtain ⟨m, hm, rfl, rfl, rfl, rfl⟩ := four_num ua ub uc ud
    subst ha; subst hb; subst hc; subst hd
    exact ⟨m, hm, rfl⟩

theorem open_pt {fuel : Nat} {cs : List Value} {x : DataW H × List MemPlace} (h : DataW.trod enc Try.prog w base spare held fuel 26 cs = some x) :
    ∃ p : Pd, p.x < B6 ^ 4 ∧ p.y < B6 ^ 4 ∧ cs = (pv p).toList := by
  obtain ⟨hl, n, hf⟩ := trod_part Try.underlying26 h
  have hl9 : cs.length = 9 := hl.trans (by kernel_rfl)
  obtain ⟨y0, hX⟩ := hf 0 _ rfl
  obtain ⟨y1, hY⟩ := hf 1 _ rfl
  obtain ⟨y2, hI⟩ := hf 2 _ rfl
  obtain ⟨x, hx, eX⟩ := open_num hX
  obtain ⟨y, hy, eY⟩ := open_num hY
  obtain ⟨b, eI, _⟩ := DataW.trod_bool Try.underlying4 hI
  obtain ⟨c0, c1, c2, c3, c4, c5, c6, c7, c8, rfl⟩ := len9 hl9
  clear h hl hl9 hf hX hY hI
  have k4 : Try.prog.cellsOf 24 = 4 := by kernel_rfl
  have k1 : Try.prog.cellsOf 4 = 1 := by kernel_rfl
  simp [k4, k1] at eX eY eI
  obtain ⟨rfl, rfl, rfl, rfl⟩ := eX
  obtain ⟨rfl, rfl, rfl, rfl⟩ := eY
  subst eI
  exact ⟨⟨x, y, b⟩, hx, hy, rfl⟩

set_option maxRecDepth 100000 in
/-- A point that came in. -/
theorem open_point {r : Reach} {b0 : Nat} {v : Value} {d : DataW H} {p : List MemPlace} (k : Value.okWide Try.prog w r b0 26 v) (h : DataW.Trod enc Try.prog w base spare held 26 v d p) :
    ∃ p : Pd, p.x < B6 ^ 4 ∧ p.y < B6 ^ 4 ∧ v = .agg (pv p) := by
  obtain ⟨cs, rfl, hsz⟩ := okWide_struct Try.underlying26 k
  obtain ⟨n, hn⟩ := h
  obtain ⟨q, hx, hy, hc⟩ := open_pt hn
  refine ⟨q, hx, hy, ?_⟩
  rw [show cs = pv q from Array.toList_inj.1 hc]

set_option maxRecDepth 100000 in
/-- A number that came in. -/
theorem open_number {r : Reach} {b0 : Nat} {v : Value} {d : DataW H} {p : List MemPlace} (k : Value.okWide Try.prog w r b0 24 v) (h : DataW.Trod enc Try.prog w base spare held 24 v d p) :
    ∃ n : Nat, n < B6 ^ 4 ∧ v = .agg #[.int .u64 (lm n 0 : Nat), .int .u64 (lm n 1 : Nat), .int .u64 (lm n 2 : Nat), .int .u64 (lm n 3 : Nat)] := by
  have hk : ∃ cs, v = .agg cs := by
    simp only [Value.okWide, Try.underlying24] at k
    obtain ⟨cs, h1, _⟩ := k
    exact ⟨cs, h1⟩
  obtain ⟨cs, rfl⟩ := hk
  obtain ⟨n, hn⟩ := h
  obtain ⟨m, hm, hc⟩ := open_num hn
  refine ⟨m, hm, ?_⟩
  rw [show cs = #[.int .u64 (lm m 0 : Nat), .int .u64 (lm m 1 : Nat), .int .u64 (lm m 2 : Nat), .int .u64 (lm m 3 : Nat)] from Array.toList_inj.1 hc]
end

theorem ofP_lt (P : Pc) : (ofP P).x < B6 ^ 4 ∧ (ofP P).y < B6 ^ 4 := by
  cases P with
  | inf => exact ⟨by show 0 < B6 ^ 4; decide, by show 0 < B6 ^ 4; decide⟩
  | aff x y => exact ⟨val_lt4 x, val_lt4 y⟩
/-- A point is of the curve or not. -/
inductive PtCase (p : Pd) : Prop
  | ok (P : Pc) (hP : P.on 7) (h : p = ofP P) : PtCase p
  | bad (h : Bad p) : PtCase p
set_option linter.constructorNameAsVariable false in
theorem pt_cases (p : Pd) (hx : p.x < B6 ^ 4) (hy : p.y < B6 ^ 4) : PtCase p :=
  Classical.byContradiction fun hn => hn (.bad ⟨hx, hy, fun h => Exists.elim h fun P h => hn (.ok P h.1 h.2)⟩)
theorem PtCase.elim' {p : Pd} {C : Prop} (h : PtCase p) (a : ∀ P : Pc, P.on 7 → p = ofP P → C) (b : Bad p → C) : C := by
  cases h with
  | ok P hP h => exact a P hP h
  | bad h => exact b h

end Go.Proofs.Ytplldbmjdnikeaa
