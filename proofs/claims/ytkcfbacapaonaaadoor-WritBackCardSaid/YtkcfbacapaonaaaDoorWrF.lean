/- Hex digits: the walk of the document's Hex. -/
import Derived.Test.YtkcfbacapaonaaaDoorWrE
import Derived.Deep.QuietTactic
import Derived.BigQuiet
namespace Go.Proofs.YtkcfbacapaonaaaDoor
set_option linter.unusedVariables false
set_option linter.unusedSimpArgs false
open Go.RowKit Go.Lib

theorem dig_cut : ∀ n : Fin 16, digitsB.extract n.val (n.val + 1) = ⟨#[hexD n.val]⟩ := by decide +kernel
theorem dig_slice {x : Nat} (h : x < 16) (w : World) : (Instr.slice 9 (.string ⟨#[48, 49, 50, 51, 52, 53, 54, 55, 56, 57, 97, 98, 99, 100, 101, 102]⟩) (some (.int .u8 x)) (some (.int .u8 (x + 1))) none).run Tryd.prog w = .ok (.string ⟨#[hexD x]⟩) w := by
  have hs : (⟨#[48, 49, 50, 51, 52, 53, 54, 55, 56, 57, 97, 98, 99, 100, 101, 102]⟩ : ByteArray).size = 16 := rfl
  rw [run_slice_string_if w 9 _ .u8 .u8 x (x + 1) Tryd.underlying9, hs, if_pos (by omega), if_pos (by omega)]
  have := dig_cut ⟨x, h⟩
  rw [show ((x : Int)).toNat = x by omega, show ((x : Int) + 1).toNat = x + 1 by omega]
  exact congrArg (fun z => Result.ok (Value.string z) w) this
theorem wrap_u8 {x : Int} (h0 : 0 ≤ x) (h : x < 256) : IntKind.u8.wrap x = x := by
  rw [IntKind.wrap_u8 x]
  omega
theorem str_app (a b : List UInt8) : ((⟨a.toArray⟩ : ByteArray) ++ ⟨b.toArray⟩ : ByteArray) = ⟨(a ++ b).toArray⟩ := by
  apply Go.WideShapes.bytes_inj
  simp
/-- Two texts joined by '+'. -/
theorem str_op {a b : List UInt8} (h : a.length + b.length ≤ 9223372036854775807) (w : World) : (Op.stringOp .add ⟨a.toArray⟩ ⟨b.toArray⟩).run Tryd.prog w = .ok (.string ⟨(a ++ b).toArray⟩) w := by
  rw [Go.run_string_add_sum w ⟨a.toArray⟩ ⟨b.toArray⟩ (by simpa [ByteArray.size] using h), str_app]

set_option maxHeartbeats 2000000 in
set_option maxRecDepth 100000 in
theorem ref_hex (s : ByteArray) (w : World) (hs : s.size ≤ 1000000) : Calls Tryd.prog 21 #[.string s] w fun e w' => e = .returned (.string ⟨(hexL s.data.toList).toArray⟩) ∧ Chg [] w w' := by
  by_cases h0 : s.data.toList = []
  · obtain ⟨h1, h2⟩ := emp_of h0
    go_enter Tryd.func21, Tryd.ntmps21
    go_wp2_with fail
    go_ret
    exact ⟨by rw [h0]; rfl, Chg.refl _ _⟩
  · obtain ⟨h1, h2⟩ := nemp_of h0
    have H0 := Lib.hid h0
    clear h0
    go_enter Tryd.func21, Tryd.ntmps21
    go_upto_region 5 with fail
    go_loopg [3, 4, 5, 6] s.size (fun g v i _ _ wr => ∃ k : Nat, g + k = s.size ∧ i = .int .i64 k ∧ v = .string ⟨(hexP (s.data.toList.take k)).toArray⟩ ∧ Chg [] w wr)
    case atStart => exact ⟨0, rfl, rfl, rfl, Chg.refl _ _⟩
    case round =>
      obtain ⟨k, hk, rfl, rfl, hC⟩ := hrel
      by_cases hlt : k < s.size
      · have hq := s[k].toNat_lt
        have q1 : 0 ≤ (s[k].toNat : Int) / 16 ∧ (s[k].toNat : Int) / 16 < 16 := by omega
        have q2 : 0 ≤ (s[k].toNat : Int) % 16 ∧ (s[k].toNat : Int) % 16 < 16 := by omega
        have HT := Lib.hid (hex_take s hlt)
        have HC := Lib.hid hC; have HK := Lib.hid hk
        clear hC hk
        go_upto_region 9 with fail
        obtain ⟨x, hx⟩ : ∃ x : Nat, (s[k].toNat : Int) / 16 = x := ⟨s[k].toNat / 16, by omega⟩
        obtain ⟨y, hy⟩ : ∃ y : Nat, (s[k].toNat : Int) % 16 = y := ⟨s[k].toNat % 16, by omega⟩
        rw [hx] at q1 ⊢
        rw [hy] at q2 ⊢
        have e1 : IntKind.u8.wrap ((x : Int) + 1) = x + 1 := wrap_u8 (by omega) (by omega)
        have e2 : IntKind.u8.wrap ((y : Int) + 1) = y + 1 := wrap_u8 (by omega) (by omega)
        have s1 := fun w => dig_slice (x := x) (by omega) w
        have s2 := fun w => dig_slice (x := y) (by omega) w
        have HX := Lib.hid hx; have HY := Lib.hid hy
        clear hx hy
        have hL : (hexP (s.data.toList.take k)).length = 2 * k := by
          have : k ≤ s.data.toList.length := by show k ≤ s.data.size; have : s.data.size = s.size := rfl; omega
          rw [hexP_len, List.length_take]; omega
        have a1 := fun w => str_op (a := hexP (s.data.toList.take k)) (b := [hexD x]) (by rw [hL]; simp; omega) w
        have a2 := fun w => str_op (a := hexP (s.data.toList.take k) ++ [hexD x]) (b := [hexD y]) (by rw [List.length_append, hL]; simp; omega) w
        clear hL
        go_quiet (fail)
        go_wp2_with fail
        go_roundg (s.size - (k + 1))
        case measure => have := HK.out; omega
        case rel =>
          refine ⟨k + 1, by have := HK.out; omega, by go_num, ?_, by first | exact HC.out.drewN _ | exact HC.out⟩
          have hx := HX.out
          have hy := HY.out
          rw [HT.out, show s[k].toNat / 16 = x by omega, show s[k].toNat % 16 = y by omega]

      · obtain rfl : k = s.size := by omega
        have e : s.data.toList.take s.size = s.data.toList := List.take_of_length_le (Nat.le_refl _)
        rw [e]
        have HC := Lib.hid hC
        clear hk e hC
        go_wp2_with fail
        go_ret
        exact ⟨by rw [hexL, if_neg H0.out]; rfl, HC.out⟩

end Go.Proofs.YtkcfbacapaonaaaDoor
