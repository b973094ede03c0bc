/- Hex digits: a Builder written byte by byte; the walks of writ.hexed and the document's Hex. -/
import Derived.Test.YtkcfbacapaonaaaDoorWrD
import Derived.Lib.Builder
import Derived.Laws.IdiomStrings
namespace Go.Proofs.YtkcfbacapaonaaaDoor
set_option linter.unusedVariables false
set_option linter.unusedSimpArgs false
open Go.RowKit Go.Lib

def BT : TypeId := 85
set_option maxRecDepth 100000 in
theorem check_used (b : Nat) (w : World) (h0 : w.cell? ⟨b, 0, none⟩ = some (.pointer (some ⟨b, 0, none⟩))) :
    Calls Tryd.prog 47 #[.pointer (some ⟨b, 0, none⟩)] w fun e w' => e = .returned (.tuple #[]) ∧ w = w' := by
  obtain ⟨j, hj, _⟩ := Option.map_eq_some_iff.1 (show (Tryd.prog.info? 85).map (·.size) = some 2 by kernel_rfl)
  have hne := Lib.run_neq_ptr_same w (⟨b, 0, none⟩ : Addr) Tryd.underlying82 hj
  go_enter Tryd.func47, Tryd.ntmps47
  go_wp2
  go_end0
  exact ⟨rfl, rfl⟩
set_option maxHeartbeats 1000000 in
set_option maxRecDepth 100000 in
theorem check_fresh (b : Nat) (w : World) (h0 : w.cell? ⟨b, 0, none⟩ = some (.pointer none)) (hsh : w.shape? b = some (85, 2)) (hfz : w.frozen? ⟨b, 0, none⟩ = false) :
    Calls Tryd.prog 47 #[.pointer (some ⟨b, 0, none⟩)] w fun e w' => e = .returned (.tuple #[]) ∧ w.setCell ⟨b, 0, none⟩ (.pointer (some ⟨b, 0, none⟩)) = w' := by
  obtain ⟨j, hj, hjs⟩ := Option.map_eq_some_iff.1 (show (Tryd.prog.info? 85).map (·.size) = some 2 by kernel_rfl)
  have k1 := Lib.run_to_unsafe w (⟨b, 0, none⟩ : Addr) Tryd.underlying82 Tryd.underlying106 hj (by rw [hjs]; decide) hsh (Nat.zero_lt_succ 1)
  have k2 := Lib.run_from_unsafe w (⟨b, 0, none⟩ : Addr) Tryd.underlying106 Tryd.underlying82 hj hsh (by kernel_rfl)
  clear hj hjs hsh
  go_enter Tryd.func47, Tryd.ntmps47
  go_wp2
  rw [run_callFunc_extern Tryd.func57 (by kernel_rfl) (by kernel_rfl) (by kernel_rfl) (e := Extern.AbiNoEscape.same) (by kernel_rfl)]
  rw [Lib.run_noEscape]
  simp only [Result.andThen]
  rw [Oper.upon_value]
  go_wp2
  go_end0
  exact ⟨rfl, rfl⟩

theorem check_any (B b : Nat) (bs : List Value) (w : World) (h : Lib.IsBuilder 85 5 B b bs w) :
    Calls Tryd.prog 47 #[.pointer (some ⟨b, 0, none⟩)] w fun e w' => e = .returned (.tuple #[]) ∧ Lib.BuilderAt 85 5 B b (.pointer (some ⟨b, 0, none⟩)) bs w' ∧ Below B w w' := by
  rcases h with h | h
  · refine (check_fresh b w h.cell0 h.shape h.frozen0).mono ?_
    rintro e w' ⟨rfl, rfl⟩
    exact ⟨rfl, h.used _, (Below.refl B w).setCell (p := ⟨b, 0, none⟩) h.1 _⟩
  · refine (check_used b w h.cell0).mono ?_
    rintro e w' ⟨rfl, rfl⟩
    exact ⟨rfl, h, Below.refl B _⟩

theorem own_shape {w : World} {base : Nat} {e : TypeId} {size : Nat} {v : Value} {n : Nat} {xs : List Value} (h : w.ownsRow base e size v n xs) : ∃ a cap, v = .slice a n cap := by
  rcases h.2 with ⟨rfl, h0⟩ | ⟨g, cap, cur, rfl, _⟩
  · exact ⟨none, 0, by rw [h0]⟩
  · exact ⟨_, _, rfl⟩
theorem elem_byte : ElemOK Tryd.prog 83 5 (.int .u8 0) 1 1 := ⟨Tryd.underlying83, by kernel_rfl, rfl, by decide⟩
set_option maxHeartbeats 2000000 in
set_option maxRecDepth 100000 in
/-- (*strings.Builder).WriteByte. -/
theorem write_byte (B b : Nat) (bs : List Value) (c : Int) (w : World) (h : Lib.IsBuilder 85 5 B b bs w) (hlen : bs.length + 1 ≤ 140737488355328) (hBw : B ≤ w.heap.size) :
    Calls Tryd.prog 46 #[.pointer (some ⟨b, 0, none⟩), .int .u8 c] w fun e w' => e = .returned .nilIface ∧ Lib.IsBuilder 85 5 B b (bs ++ [.int .u8 c]) w' ∧ Below B w w' := by
  have HK := Lib.hid (check_any B b bs w h)
  clear h
  go_enter Tryd.func46, Tryd.ntmps46
  go_wp2_with fail
  refine HK.out.mono ?_
  rintro e w1 ⟨rfl, h1, hb1⟩
  obtain ⟨hB, v, hbk, hown, hne⟩ := h1
  have c0 := cell_of_has hbk 0
  have c1 := cell_of_has hbk 1
  simp only [glA, glB, glC] at c0 c1
  have hsz := hb1.size
  have HOwn := Lib.hid hown; have HB1 := Lib.hid hb1; have HBk := Lib.hid hbk; have HNe := Lib.hid hne
  clear hown hb1 hbk hne
  have hlt := lt_of_has HBk.out
  go_wp2_with (at_builtin; go_loud (refine wpList_push rfl _ _ 83 rfl elem_byte B rfl (HOwn.out.alloc _) w1.heap.size #[.int .u8 c] rfl rfl (has_alloc_new _ _) (by simp [Value.oneCell']) (by omega) (by omega) (by simp; omega) ?_); intro v' w2 hown' hgrow _; obtain ⟨a, cap, rfl⟩ := own_shape hown'; have hb2 := grown_has hgrow (has_alloc HBk.out) (fun e => HNe.out e.symm); have d0 := cell_of_has hb2 0; have d1 := cell_of_has hb2 1; have f1 := frozen_of_has hb2 1; simp only [glA, glB, glC] at d0 d1; have hgs := hgrow.size; have HOwn' := Lib.hid hown'; have HGrow := Lib.hid hgrow; have HB2 := Lib.hid hb2; clear hown' hgrow hb2)
  go_ret
  refine ⟨rfl, Or.inr ?_, ?_⟩
  · exact Lib.BuilderAt.put hB HB2.out (bs' := bs ++ [.int .u8 c]) (by simpa using HOwn'.out) (by decide)
  · exact ((HB1.out.alloc (by omega) _).grown HGrow.out (by simp; omega) (fun k hk => (HOwn.out.lt k hk).1)).setCell (p := ⟨b, 1, none⟩) hB _

theorem hex_take (s : ByteArray) {k : Nat} (h : k < s.size) : hexP (s.data.toList.take (k + 1)) = hexP (s.data.toList.take k) ++ [hexD (s[k].toNat / 16), hexD (s[k].toNat % 16)] := by
  rw [List.take_succ_eq_append_getElem (by simpa using h), hexP_snoc]; rfl
theorem dig_fin : ∀ n : Fin 16, digitsB[n.val]'(n.isLt) = hexD n.val := by decide +kernel
theorem dig_get (n : Nat) (h : n < (⟨#[48, 49, 50, 51, 52, 53, 54, 55, 56, 57, 97, 98, 99, 100, 101, 102]⟩ : ByteArray).size) : (⟨#[48, 49, 50, 51, 52, 53, 54, 55, 56, 57, 97, 98, 99, 100, 101, 102]⟩ : ByteArray)[n]'h = hexD n := dig_fin ⟨n, h⟩
theorem cells_snoc (l : List UInt8) (c : UInt8) : byteCells (l ++ [c]) = byteCells l ++ [Value.int .u8 c.toNat] := by simp [byteCells]

theorem ba_loop (s : ByteArray) : ∀ (n i : Nat) (r : List UInt8), n + i = s.size → ByteArray.toList.loop s i r = r.reverse ++ s.data.toList.drop i
  | 0, i, r, h => by
    rw [ByteArray.toList.loop, if_neg (by omega), List.drop_of_length_le (by show s.data.size ≤ i; exact Nat.le_of_eq (by rw [← Nat.zero_add i, h]; rfl))]
    simp
  | n + 1, i, r, h => by
    rw [ByteArray.toList.loop, if_pos (by omega), ba_loop s n (i + 1) _ (by omega)]
    have hi : i < s.data.toList.length := by show i < s.data.size; have : s.data.size = s.size := rfl; omega
    rw [List.drop_eq_getElem_cons hi]
    have : s.get! i = s.data.toList[i] := by
      show s.data[i]! = _
      rw [getElem!_pos s.data i (by simpa using hi)]
      simp
    rw [this]
    simp
theorem ba_toList (s : ByteArray) : s.toList = s.data.toList := by
  unfold ByteArray.toList
  rw [ba_loop s s.size 0 [] (by omega)]
  simp
/-- A text is empty: as the walk asks it. -/
theorem emp_of {s : ByteArray} (h : s.data.toList = []) : s.toList = [] ∧ s.toList.isEmpty = true := by rw [ba_toList, h]; exact ⟨rfl, rfl⟩
theorem nemp_of {s : ByteArray} (h : s.data.toList ≠ []) : s.toList ≠ [] ∧ s.toList.isEmpty = false := by rw [ba_toList]; exact ⟨h, by simpa using h⟩

set_option maxHeartbeats 2000000 in
set_option maxRecDepth 100000 in
theorem hexed_any (s : ByteArray) (w : World) (hs : s.size ≤ 1000000) : Calls Tryd.prog 30 #[.string s] w fun e w' => e = .returned (.string ⟨(hexL s.data.toList).toArray⟩) ∧ Chg [] w w' := by
  by_cases h0 : s.data.toList = []
  · obtain ⟨h1, h2⟩ := emp_of h0
    go_enter Tryd.func30, Tryd.ntmps30
    go_wp2_with fail
    go_ret
    exact ⟨by rw [h0]; rfl, Chg.refl _ _⟩
  · obtain ⟨h1, h2⟩ := nemp_of h0
    obtain ⟨b, hb⟩ : ∃ b, w.heap.size = b := ⟨_, rfl⟩
    obtain ⟨W0, hW0⟩ : ∃ W0, w.alloc (.cells #[.pointer none, .slice none 0 0] 85) = W0 := ⟨_, rfl⟩
    have hIs : Lib.IsBuilder 85 5 b b [] W0 := Or.inl ⟨Nat.le_refl _, _, by rw [← hW0, ← hb]; exact has_alloc_new _ _, World.ownsRow_nil _ _ _ _, by simp [Value.ownBlock]⟩
    have hBe : Below b w W0 := by rw [← hW0, ← hb]; exact (Below.refl _ w).alloc (Nat.le_refl _) _
    have HI := Lib.hid hIs; have HB := Lib.hid hBe; have HW := Lib.hid hW0; have Hb := Lib.hid hb; have H0 := Lib.hid h0
    clear hIs hBe hW0 hb h0
    go_enter Tryd.func30, Tryd.ntmps30
    go_upto_region 4 with fail
    try rw [HW.out]
    try rw [Hb.out]
    go_wp2_with fail
    go_loopg [4, 9] s.size (fun g j i wr => ∃ k : Nat, g + k = s.size ∧ i = .int .i64 k ∧ Lib.IsBuilder 85 5 b b (byteCells (hexP (s.data.toList.take k))) wr ∧ Below b w wr)
    case atStart => exact ⟨0, rfl, rfl, HI.out, HB.out⟩
    case round =>
      obtain ⟨k, hk, rfl, hIs, hBe⟩ := hrel
      by_cases hlt : k < s.size
      · have hq := s[k].toNat_lt
        have q1 : 0 ≤ (s[k].toNat : Int) / 16 ∧ (s[k].toNat : Int) / 16 < 16 := by omega
        have q2 : 0 ≤ (s[k].toNat : Int) % 16 ∧ (s[k].toNat : Int) % 16 < 16 := by omega
        have hlen : (byteCells (hexP (s.data.toList.take k))).length = 2 * k := by
          have : k ≤ s.data.toList.length := by show k ≤ s.data.size; have : s.data.size = s.size := rfl; omega
          simp [byteCells, hexP_len]; omega
        have HT := Lib.hid (hex_take s hlt)
        have HIs := Lib.hid hIs; have HBe := Lib.hid hBe; have HLen := Lib.hid hlen; have HK := Lib.hid hk
        clear hIs hBe hlen hk
        go_wp2_with fail
        rw [dig_get]
        refine (write_byte b b _ _ wr HIs.out (by rw [HLen.out]; omega) (by have := HBe.out.size; have := Hb.out; omega)).mono ?_
        rintro e w1 ⟨rfl, hI1, hB1⟩
        have HI1 := Lib.hid hI1; have HB1 := Lib.hid (HBe.out.trans hB1)
        clear hI1 hB1
        go_wp2_with fail
        rw [dig_get]
        refine (write_byte b b _ _ w1 HI1.out (by simp only [List.length_append, HLen.out]; simp; omega) (by have := HB1.out.size; have := Hb.out; omega)).mono ?_
        rintro e w2 ⟨rfl, hI2, hB2⟩
        have HI2 := Lib.hid hI2; have HB2 := Lib.hid (HB1.out.trans hB2)
        clear hI2 hB2
        go_wp2_with fail
        go_roundg (s.size - (k + 1))
        case measure => have := HK.out; omega
        case rel =>
          refine ⟨k + 1, by have := HK.out; omega, by go_num, ?_, HB2.out⟩
          have h := HI2.out
          have e : hexP (s.data.toList.take (k + 1)) = (hexP (s.data.toList.take k) ++ [hexD (s[k].toNat / 16)]) ++ [hexD (s[k].toNat % 16)] := by rw [HT.out]; simp
          rw [e, cells_snoc, cells_snoc]
          exact h
      · obtain rfl : k = s.size := by omega
        have e : s.data.toList.take s.size = s.data.toList := List.take_of_length_le (Nat.le_refl _)
        rw [e] at hIs
        have HIs := Lib.hid hIs; have HBe := Lib.hid hBe; have HK := Lib.hid hk
        clear hIs hBe hk e
        go_wp2_with fail
        refine (Tryd.Builder_String_any b b _ wr HIs.out (by have := HBe.out.size; have := Hb.out; omega)).mono ?_
        rintro e w1 ⟨rfl, hB1⟩
        have HB1 := Lib.hid (HBe.out.trans hB1)
        clear hB1
        go_wp2_with fail
        go_ret
        refine ⟨by rw [hexL, if_neg H0.out]; rfl, ?_⟩
        have h := HB1.out
        rw [← Hb.out] at h
        exact Chg.of_below h _

end Go.Proofs.YtkcfbacapaonaaaDoor
