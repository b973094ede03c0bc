/- What the library's functions say in the words of these texts: numerals, a text cut and joined, a Builder's bytes. -/
import Derived.Test.YtkcfbacapaonaaaDoorBase
import Derived.Test.YtkcfbacapaonaaaDoorSh
import Derived.Test.YtkcfbacapaonaaaDoorWrC
import Derived.Lib.AppendIntMem
import Derived.Lib.AtoiErrMem
namespace Go.Proofs.YtkcfbacapaonaaaDoor
set_option linter.unusedVariables false
set_option linter.unusedSimpArgs false
open Go.RowKit Go.Lib

theorem var_chg {P : Program} {w w' : World} {n : String} {cs : Array Value} (h : w.var? P n = some cs) (c : Chg [] w w') : w'.var? P n = some cs := by
  unfold World.var? at h ⊢
  revert h
  cases P.globalNamed n with
  | none => intro h; cases h
  | some g =>
    simp only [Option.bind_some]
    intro h
    cases ho : w.heap[g]? with
    | none => rw [ho] at h; cases h
    | some o =>
      rw [ho] at h
      rw [c.has ho nmN]
      exact h

/-- What the walks ask of the package variables. -/
structure GW (w : World) : Prop where
  pow : TabIs Tryd.prog w "internal/strconv.uint64pow10" .u64 pow10Tab
  es : ∃ tp p, w.var? Tryd.prog "strconv.ErrSyntax" = some #[.iface tp p]
  er : ∃ tp p, w.var? Tryd.prog "strconv.ErrRange" = some #[.iface tp p]
  ml : ∃ m : Int, w.cell? ⟨0, 0, none⟩ = some (.int .i64 m)
theorem GW.chg {w w' : World} (h : GW w) (c : Chg [] w w') : GW w' :=
  ⟨var_chg h.pow c, h.es.imp fun _ h => h.imp fun _ h => var_chg h c, h.er.imp fun _ h => h.imp fun _ h => var_chg h c, h.ml.imp fun _ h => c.cell h nmN⟩

theorem itoa_any {n : Int} (hn : In64 n) (w : World) (hg : GW w) : Calls Tryd.prog 20 #[.int .i64 n] w fun e w' => e = .returned (.string ⟨(itoa n).toArray⟩) ∧ Chg [] w w' :=
  (Tryd.strconv_Itoa n hn.1 hn.2 w hg.pow).mono fun _ _ ⟨h1, k, os, h2⟩ => ⟨h1, by rw [h2]; exact Chg.of_below (below_grow _ w (Nat.le_refl _) k os) _⟩

theorem atoi_any (s : ByteArray) (hs : s.size ≤ 281474976710656) (w : World) (hg : GW w) : Calls Tryd.prog 42 #[.string s] w fun e w' => ∃ t, e = .returned (.tuple #[.int .i64 (numV s.data.toList), t]) ∧ Chg [] w w' := by
  rcases h : atoiAll s.data.toList with v | _ | _
  · have e : numV s.data.toList = v := by unfold numV; rw [h]
    rw [e]
    refine (Tryd.strconv_Atoi_ok s (by omega) v h w).mono fun _ _ h => ⟨_, h.1, ?_⟩
    rcases h.2 with rfl | ⟨t, rfl⟩
    · exact Chg.refl _ _
    · exact Chg.of_below (bytesWorld_below w _ t) _
  · have e : numV s.data.toList = 0 := by unfold numV; rw [h]
    rw [e]
    obtain ⟨tp, p, hv⟩ := hg.es
    exact (Tryd.strconv_Atoi_syntax_var s hs h tp p w hv).mono fun _ _ h => h.elim fun _ h => ⟨_, h.1, Chg.of_below h.2.2.2 _⟩
  · have e : numV s.data.toList = atoiSat s.data.toList := by unfold numV; rw [h]
    rw [e]
    obtain ⟨tp, p, hv⟩ := hg.er
    exact (Tryd.strconv_Atoi_range_var s hs h tp p w hv).mono fun _ _ h => h.elim fun _ h => ⟨_, h.1, Chg.of_below h.2.2.2 _⟩

/-- A slice value that reads as strings. -/
def ReadsS (w : World) (b off : Nat) (xs : List (List UInt8)) : Prop := b < w.heap.size ∧ ∀ j x, xs[j]? = some x → w.cell? ⟨b, off + j, none⟩ = some (.string ⟨x.toArray⟩)
theorem ReadsS.chg {w w' : World} {b off : Nat} {xs : List (List UInt8)} (h : ReadsS w b off xs) (c : Chg [] w w') : ReadsS w' b off xs :=
  ⟨Nat.lt_of_lt_of_le h.1 c.size, fun j x hx => c.cell (h.2 j x hx) nmN⟩
theorem ba_list (s : ByteArray) : (⟨s.data.toList.toArray⟩ : ByteArray) = s := rfl

theorem split_any (s : ByteArray) (c : UInt8) (hs : s.size < 4294967281) (w : World) (hg : GW w) : Calls Tryd.prog 23 #[.string s, .string ⟨#[c]⟩] w fun e w' =>
    ∃ b, e = .returned (.slice (some ⟨b, 0, none⟩) (parts c s.data.toList).length (parts c s.data.toList).length) ∧ ReadsS w' b 0 (parts c s.data.toList) ∧ Chg [] w w' := by
  obtain ⟨m, hm⟩ := hg.ml
  refine (Tryd.strings_Split s ⟨#[c]⟩ m w hs hm (Nat.le_refl 1)).mono fun e w' h => ?_
  obtain ⟨h1, rfl⟩ := h
  have hp := splitB_parts c s
  have hl : (parts c s.data.toList).length = countB s ⟨#[c]⟩ + 1 := by
    rw [← hp, List.length_map, splitB_all ⟨#[c]⟩ (Nat.le_refl 1) 0 _ s rfl]
  refine ⟨w.heap.size, by rw [hl]; exact h1, ⟨by simp, fun j x hx => ?_⟩, (Chg.refl _ _).alloc _⟩
  rw [← hp, List.getElem?_map] at hx
  obtain ⟨y, hy, rfl⟩ := Option.map_eq_some_iff.1 hx
  rw [cell_of_has (has_alloc_new _ _), Nat.zero_add, List.getElem?_toArray, List.getElem?_map, hy]
  rfl

theorem join_any {b o c n : Nat} {sep : ByteArray} {xs : List (List UInt8)} (w : World) (h : ReadsS w b o xs) (hn : xs.length = n) (hc : n ≤ c) (hN : n ≤ 140737488355328)
    (hlen : (join xs sep.data.toList).length ≤ 140737488355328) : Calls Tryd.prog 19 #[.slice (some ⟨b, o, none⟩) n c, .string sep] w fun e w' =>
      e = .returned (.string ⟨(join xs sep.data.toList).toArray⟩) ∧ Chg [] w w' := by
  subst hn
  have hx : (xs.map fun x => (⟨x.toArray⟩ : ByteArray)).map (·.data.toList) = xs := by
    rw [List.map_map]
    exact List.map_id'' (fun _ => rfl) xs
  have := Tryd.strings_Join b o c (xs.map fun x => ⟨x.toArray⟩) sep w (fun j x hj => by
    rw [List.getElem?_map] at hj
    obtain ⟨y, hy, rfl⟩ := Option.map_eq_some_iff.1 hj
    exact h.2 j y hy) h.1 (by simpa using hN) (by simpa using hc) (by rw [hx]; exact hlen)
  rw [hx, List.length_map] at this
  exact this.mono fun _ _ h => ⟨h.1, Chg.of_below h.2 _⟩

theorem index_any (c : UInt8) (w : World) : Calls Tryd.prog 43 #[.string digitsB, .int .u8 c.toNat] w fun e w' => e = .returned (.int .i64 (dgt c)) ∧ w = w' := by
  refine (Tryd.strings_IndexByte digitsB c.toNat w).mono fun e w' h => ⟨?_, h.2.symm⟩
  rw [h.1]
  simp [dgt]

end Go.Proofs.YtkcfbacapaonaaaDoor
