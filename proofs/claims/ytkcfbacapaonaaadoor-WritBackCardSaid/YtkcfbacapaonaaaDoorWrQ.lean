/- A text cut at a byte: the walk of the document's split. -/
import Derived.Test.YtkcfbacapaonaaaDoorWrO
namespace Go.Proofs.YtkcfbacapaonaaaDoor
set_option linter.unusedVariables false
set_option linter.unusedSimpArgs false
open Go.RowKit Go.Lib

/-- The parts up to a place: what is done, and from where. -/
theorem parts_from {c : UInt8} {l : List UInt8} {from_ i : Nat} (hf : from_ ≤ i) (hi : i < l.length) (hno : ∀ j (h : j < l.length), from_ ≤ j → j < i → l[j] ≠ c) (he : l[i] = c) :
    parts c (l.drop from_) = (l.drop from_).take (i - from_) :: parts c (l.drop (i + 1)) := by
  have e : l.drop from_ = (l.drop from_).take (i - from_) ++ c :: l.drop (i + 1) := by
    have h1 : l.drop i = c :: l.drop (i + 1) := by rw [List.drop_eq_getElem_cons hi, he]
    have h2 : (l.drop from_).drop (i - from_) = l.drop i := by rw [List.drop_drop]; congr 1; omega
    rw [← h1, ← h2, List.take_append_drop]
  have hn : c ∉ (l.drop from_).take (i - from_) := by
    intro hm
    obtain ⟨j, hj, e⟩ := List.mem_iff_getElem.1 hm
    rw [List.length_take, List.length_drop] at hj
    rw [List.getElem_take, List.getElem_drop] at e
    exact hno (from_ + j) (by omega) (by omega) (by omega) e
  conv => lhs; rw [e]
  exact parts_hit hn
theorem parts_rest {c : UInt8} {l : List UInt8} {from_ : Nat} (hno : ∀ j (h : j < l.length), from_ ≤ j → l[j] ≠ c) : parts c (l.drop from_) = [l.drop from_] := by
  refine parts_none fun hm => ?_
  obtain ⟨j, hj, e⟩ := List.mem_iff_getElem.1 hm
  rw [List.length_drop] at hj
  rw [List.getElem_drop] at e
  exact hno (from_ + j) (by omega) (by omega) e
theorem cut_lit {s t : ByteArray} {i j : Nat} (h1 : i ≤ j) (h2 : j ≤ s.size) (ht : s.extract i j = t) (w : World) : (Instr.slice 9 (.string s) (some (.int .i64 i)) (some (.int .i64 j)) none).run Tryd.prog w = .ok (.string t) w := by
  rw [run_slice_string_if w 9 s .i64 .i64 i j Tryd.underlying9, if_pos (by omega), if_pos (by omega)]
  rw [show ((i : Int)).toNat = i by omega, show ((j : Int)).toNat = j by omega]
  exact congrArg (fun z => Result.ok (Value.string z) w) ht
theorem cut_rest {s t : ByteArray} {i : Nat} (h1 : i ≤ s.size) (ht : s.extract i s.size = t) (w : World) : (Instr.slice 9 (.string s) (some (.int .i64 i)) none none).run Tryd.prog w = .ok (.string t) w := by
  rw [run_slice_string_from_if w 9 s .i64 i Tryd.underlying9, if_pos (by omega), show ((i : Int)).toNat = i by omega]
  exact congrArg (fun z => Result.ok (Value.string z) w) ht

def SplitOut (ps : List (List UInt8)) (e : Ending) (w' : World) : Prop := ∃ b cap, e = .returned (.slice (some ⟨b, 0, none⟩) ps.length cap) ∧ ReadsS w' b 0 ps
set_option maxRecDepth 100000 in
set_option maxHeartbeats 8000000 in
theorem ref_split (s : ByteArray) (c : UInt8) (hs : s.size ≤ 1000000) (w : World) : Calls Tryd.prog 27 #[.string s, .int .u8 c.toNat] w fun e w' =>
    SplitOut (parts c s.data.toList) e w' ∧ Chg [] w w' := by
  have hsz : s.data.toList.length = s.size := rfl
  have HS := Lib.hid hsz
  clear hsz
  go_enter Tryd.func27, Tryd.ntmps27
  go_wp2_with fail
  go_loopg [5, 6, 7] s.size (fun g o f i wr => ∃ (k n m cap : Nat) (A : Option Addr) (xs : List (List UInt8)), g + k = s.size ∧ i = .int .i64 k ∧ f = .int .i64 m ∧ m ≤ k ∧ n ≤ k ∧ o = .slice A n cap ∧ wr.ownsRow w.heap.size 9 1 (.slice A n cap) n (strs xs) ∧
    parts c s.data.toList = xs ++ parts c (s.data.toList.drop m) ∧ (∀ j (h : j < s.data.toList.length), m ≤ j → j < k → s.data.toList[j] ≠ c) ∧ Chg [] w wr)
  case atStart => exact ⟨0, 0, 0, 0, none, [], rfl, rfl, rfl, Nat.le_refl _, Nat.le_refl _, rfl, World.ownsRow_nil _ _ _ _, rfl, fun j _ _ h => absurd h (Nat.not_lt_zero _), Chg.refl _ _⟩
  case round =>
    obtain ⟨k, n, m, cap, A, xs, hk, rfl, rfl, hmk, hnk, rfl, hown, hpt, hno, hC⟩ := hrel
    have hks : k ≤ s.size := by omega
    have HOwn := Lib.hid hown; have HPt := Lib.hid hpt; have HNo := Lib.hid hno; have HC := Lib.hid hC; have HK := Lib.hid hk
    clear hown hpt hno hC hk
    by_cases hlt : k < s.size
    · by_cases he : s[k] = c
      · have f1 := u8_eq he
        obtain ⟨t, ht⟩ : ∃ t, s.extract m k = t := ⟨_, rfl⟩
        have htl : t.data.toList = (s.data.toList.drop m).take (k - m) := by rw [← ht, Lib.extract_data]
        have sl := fun w => cut_lit hmk (by omega) ht w
        have HTl := Lib.hid htl
        have HE := Lib.hid he
        have hk9 : n ≤ 1000000 := by omega
        clear ht htl he
        go_wp2_with (at_builtin; go_loud (refine wpList_push rfl _ _ 63 rfl elem_string w.heap.size rfl (HOwn.out.alloc _) wr.heap.size #[.string t] rfl rfl (has_alloc_new _ _) (by simp [Value.oneCell']) (by omega) (by omega) (by have := HC.out.size; simp; omega) ?_); intro v' w5 hown' hgrow _; obtain ⟨a5, cap5, rfl⟩ := own_shape hown'; have HOwn5 := Lib.hid hown'; have HGrow := Lib.hid hgrow; clear hown' hgrow)
        go_roundg (s.size - (k + 1))
        case measure => have := HK.out; omega
        case rel =>
          refine ⟨k + 1, n + 1, k + 1, _, _, xs ++ [t.data.toList], by have := HK.out; omega, by go_num, by go_num, Nat.le_refl _, by omega, rfl, ?_, ?_, fun j _ h1 h2 => by omega, (HC.out.alloc _).grown HGrow.out (fun b hb => Or.inr ((HOwn.out.lt b hb).1))⟩
          · rw [strs_snoc]; exact HOwn5.out
          · rw [HPt.out, parts_from hmk (by rw [HS.out]; exact hlt) HNo.out HE.out, HTl.out]
            simp
      · have f1 := u8_ne he
        have HE := Lib.hid he
        clear he
        go_wp2_with fail
        go_roundg (s.size - (k + 1))
        case measure => have := HK.out; omega
        case rel =>
          refine ⟨k + 1, n, m, cap, A, xs, by have := HK.out; omega, by go_num, rfl, by omega, by omega, rfl, HOwn.out, HPt.out, fun j h h1 h2 => ?_, HC.out⟩
          by_cases hj : j < k
          · exact HNo.out j h h1 hj
          · obtain rfl : j = k := by omega
            exact HE.out
    · obtain rfl : k = s.size := by omega
      obtain ⟨t, ht⟩ : ∃ t, s.extract m s.size = t := ⟨_, rfl⟩
      have htl : t.data.toList = s.data.toList.drop m := by rw [← ht, Lib.extract_to_end]
      have sl := fun w => cut_rest hmk ht w
      have HTl := Lib.hid htl
      have hk9 : n ≤ 1000000 := by omega
      clear ht htl
      go_wp2_with (at_builtin; go_loud (refine wpList_push rfl _ _ 63 rfl elem_string w.heap.size rfl (HOwn.out.alloc _) wr.heap.size #[.string t] rfl rfl (has_alloc_new _ _) (by simp [Value.oneCell']) (by omega) (by omega) (by have := HC.out.size; simp; omega) ?_); intro v' w5 hown' hgrow _; obtain ⟨a5, cap5, rfl⟩ := own_shape hown'; have HOwn5 := Lib.hid hown'; have HGrow := Lib.hid hgrow; clear hown' hgrow)
      go_ret
      have hp : parts c s.data.toList = xs ++ [t.data.toList] := by
        rw [HPt.out, parts_rest (fun j h h1 => HNo.out j h h1 (by rw [← HS.out]; exact h)), HTl.out]
      have h5 : w5.ownsRow w.heap.size 9 1 (.slice a5 (n + 1) cap5) (n + 1) (strs (parts c s.data.toList)) := by
        rw [hp, strs_snoc]; exact HOwn5.out
      obtain ⟨g, cap9, hv, hR, _, hl⟩ := own_reads h5 (by omega)
      injection hv with hv1 hv2 hv3
      subst hv1
      exact ⟨⟨g, cap5, by rw [hl]; rfl, hR⟩, (HC.out.alloc _).grown HGrow.out (fun b hb => Or.inr ((HOwn.out.lt b hb).1))⟩

end Go.Proofs.YtkcfbacapaonaaaDoor
