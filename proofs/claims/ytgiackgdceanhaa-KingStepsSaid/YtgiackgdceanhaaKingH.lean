/- KingAgrees, for every reading of its arguments. -/
import Derived.Test.YtgiackgdceanhaaKingG
import Derived.Test.YtgiackgdceanhaaOpen
namespace Go.Proofs.Ytgiackgdceanhaa
set_option linter.unusedVariables false
set_option linter.unusedSimpArgs false
open Go.RowKit Go.WideShapes Go.ChangeShapes

section
variable {H : Type} (enc : TypeId × Value → H) (W : World)

theorem open_seat {v : Value} {d : DataW H} {p : List MemPlace} {base : Nat} (h : DataW.Trod enc Try.prog W 0 (fun _ => true) true 49 v d p) (hk : Value.okWide Try.prog W .any base 49 v) :
    ∃ n f s x : Int, v = .agg #[.int .i64 n, .int .i64 f, .int .i64 s, .int .i64 x] ∧ (Lit.int .i64 n).wf = true ∧ (Lit.int .i64 f).wf = true ∧ (Lit.int .i64 s).wf = true ∧ (Lit.int .i64 x).wf = true := by
  obtain ⟨v0, v1, v2, v3, y0, y1, y2, y3, n, rfl, _, _, h0, h1, h2, h3⟩ := Joins.open_agg4 Try.underlying49 (by kernel_rfl) (by kernel_rfl) hk h
  obtain ⟨n0, e0, _, w0⟩ := DataW.trod_int (k := .i64) Try.underlying3 h0
  obtain ⟨n1, e1, _, w1⟩ := DataW.trod_int (k := .i64) Try.underlying3 h1
  obtain ⟨n2, e2, _, w2⟩ := DataW.trod_int (k := .i64) Try.underlying3 h2
  obtain ⟨n3, e3, _, w3⟩ := DataW.trod_int (k := .i64) Try.underlying3 h3
  injection e0 with e0; injection e1 with e1; injection e2 with e2; injection e3 with e3
  subst e0; subst e1; subst e2; subst e3
  exact ⟨n0, n1, n2, n3, rfl, w0, w1, w2, w3⟩

theorem open_bad {v : Value} {d : DataW H} {p : List MemPlace} {base : Nat} (h : DataW.Trod enc Try.prog W 0 (fun _ => true) true 66 v d p) (hk : Value.okWide Try.prog W .any base 66 v) :
    ∃ (s : Int) (B : Option Addr) (c : Nat) (ws : List Int), v = .agg #[.int .i64 s, .slice B ws.length c] ∧ (Lit.int .i64 s).wf = true ∧ ReadsI W B ws ∧ ws.length ≤ 9223372036854775807 ∧ (∀ z ∈ ws, (Lit.int .i64 z).wf = true) := by
  obtain ⟨v0, v1, y0, y1, n, rfl, _, _, h0, h1⟩ := Joins.open_agg2 Try.underlying66 (by kernel_rfl) (by kernel_rfl) hk h
  obtain ⟨n0, e0, _, w0⟩ := DataW.trod_int (k := .i64) Try.underlying3 h0
  injection e0 with e0
  subst e0
  obtain ⟨B, c, ws, e1, r, hm, hw⟩ := open_sliceI Try.underlying22 Try.underlying3 (by kernel_rfl) h1
  subst e1
  exact ⟨n0, B, c, ws, rfl, w0, r, hm, hw⟩

theorem open_ints' {v : Value} {d : DataW H} {p : List MemPlace} {base : Nat} (h : DataW.Trod enc Try.prog W 0 (fun _ => true) true 22 v d p) (hk : Value.okWide Try.prog W .any base 22 v) :
    ∃ (B : Option Addr) (c : Nat) (ws : List Int), v = .slice B ws.length c ∧ ReadsI W B ws ∧ ws.length ≤ 9223372036854775807 ∧ (∀ z ∈ ws, (Lit.int .i64 z).wf = true) := by
  obtain ⟨a, len, cap, rfl⟩ := okWide_slice Try.underlying22 hk
  obtain ⟨m, hm⟩ := h
  obtain ⟨B, c, ws, e1, r, hl, hw⟩ := open_sliceI Try.underlying22 Try.underlying3 (by kernel_rfl) hm
  exact ⟨B, c, ws, e1, r, hl, hw⟩

theorem kingAgrees_law {v0 v1 v2 : Value} {d0 d1 d2 : DataW H} {p0 p1 p2 : List MemPlace} {base : Nat}
    (h0 : DataW.Trod enc Try.prog W 0 (fun _ => true) true 49 v0 d0 p0) (k0 : Value.okWide Try.prog W .any base 49 v0)
    (h1 : DataW.Trod enc Try.prog W 0 (fun _ => true) true 22 v1 d1 p1) (k1 : Value.okWide Try.prog W .any base 22 v1)
    (h2 : DataW.Trod enc Try.prog W 0 (fun _ => true) true 66 v2 d2 p2) (k2 : Value.okWide Try.prog W .any base 66 v2)
    (_hsz : (DataW.weightsEach Try.prog [49, 22, 66] [d0, d1, d2]).all (· ≤ reachBytes) = true) :
    Calls Try.prog 6 #[v0, v1, v2] W fun e w' => e = .returned (.bool true) ∧ Below W.heap.size W w' := by
  obtain ⟨n, f, s, x, rfl, _, _, _, _⟩ := open_seat enc W h0 k0
  obtain ⟨A, ca, zs, rfl, rA, hA, _⟩ := open_ints' enc W h1 k1
  obtain ⟨set, B, cb, ws, rfl, _, rB, hB, _⟩ := open_bad enc W h2 k2
  exact king_agrees_any n f s x set A B ca cb zs ws W hA hB rA rB
end

end Go.Proofs.Ytgiackgdceanhaa
