/- The text that hex digits are: the walk of writ.unhexed. -/
import Derived.Test.YtkcfbacapaonaaaDoorWrF
import Derived.Test.YtkcfbacapaonaaaDoorAnyU
import Derived.Laws.BytesArg
namespace Go.Proofs.YtkcfbacapaonaaaDoor
set_option linter.unusedVariables false
set_option linter.unusedSimpArgs false
open Go.RowKit Go.Lib

theorem unhex_take : ∀ (l : List UInt8) (k : Nat) (h : 2 * k + 1 < l.length), unhexL (l.take (2 * (k + 1))) = unhexL (l.take (2 * k)) ++ [byte2 l[2 * k] l[2 * k + 1]]
  | a :: b :: r, 0, h => by simp [unhexL]
  | a :: b :: r, k + 1, h => by
    have hr : 2 * k + 1 < r.length := by simp at h; omega
    have ih := unhex_take r k hr
    have h0 : 2 * k < r.length := by omega
    show unhexL (a :: b :: r.take (2 * (k + 1))) = unhexL (a :: b :: r.take (2 * k)) ++ [byte2 r[2 * k] r[2 * k + 1]]
    rw [unhexL, unhexL, ih]
    rfl
theorem unhex_all : ∀ (l : List UInt8) (k : Nat), l.length = 2 * k ∨ l.length = 2 * k + 1 → unhexL (l.take (2 * k)) = unhexL l
  | [], k, _ => by simp
  | [a], k, h => by
    have : k = 0 := by simp at h; omega
    subst this; rfl
  | a :: b :: r, 0, h => by simp at h
  | a :: b :: r, k + 1, h => by
    have ih := unhex_all r k (by simp at h; omega)
    show unhexL (a :: b :: r.take (2 * k)) = _
    rw [unhexL, unhexL, ih]
theorem index_lit (c : UInt8) (w : World) : Calls Tryd.prog 43 #[.string ⟨#[48, 49, 50, 51, 52, 53, 54, 55, 56, 57, 97, 98, 99, 100, 101, 102]⟩, .int .u8 c.toNat] w fun e w' => e = .returned (.int .i64 (dgt c)) ∧ w = w' := index_any c w
set_option maxRecDepth 100000 in
/-- The text that bytes of the call's own are. -/
theorem conv_own {w : World} {base n cap : Nat} {A : Option Addr} {l : List UInt8} (h : w.ownsRow base 5 1 (.slice A n cap) n (byteCells l)) :
    (convert 83 9 (.slice A n cap)).run Tryd.prog w = .ok (.string ⟨l.toArray⟩) w := by
  have hl : l.length = n := by have := h.1; simpa [byteCells] using this
  rcases h.2 with ⟨e, h0⟩ | ⟨g, cap', cur, e, hb, hg, _⟩
  · injection e with e1 e2 e3
    have : l = [] := by cases l with | nil => rfl | cons a r => simp at hl; omega
    subst this; subst e1
    exact run_convert_bytes_nil (w := w) 83 5 Tryd.underlying83 Tryd.underlying5 _ _ _ Tryd.underlying9
  · injection e with e1 e2 e3
    subst e1; subst hl
    refine run_convert_bytes_back (P := Tryd.prog) w 83 9 5 ⟨g, 0, none⟩ cap l Tryd.underlying83 Tryd.underlying5 Tryd.underlying9 (fun j hj => ?_)
    exact h.cells (g := g) rfl j _ (by simp [byteCells, hj])
theorem byte2_fin : ∀ x y : Fin 16, IntKind.u8.wrap (bits BinOp.or IntKind.i64 (IntKind.i64.wrap ((x.val : Int) * 16)) (y.val : Int)) = ((UInt8.ofNat (16 * x.val + y.val)).toNat : Int) := by decide +kernel
theorem byte2_neg : ∀ y : Fin 16, IntKind.u8.wrap (bits BinOp.or IntKind.i64 (IntKind.i64.wrap ((-1 : Int) * 16)) (y.val : Int)) = ((UInt8.ofNat (240 + y.val)).toNat : Int) := by decide +kernel
theorem byte2_bad : ∀ x : Fin 16, IntKind.u8.wrap (bits BinOp.or IntKind.i64 (IntKind.i64.wrap ((x.val : Int) * 16)) (-1 : Int)) = 255 := by decide +kernel
theorem byte2_eq (a b : UInt8) : IntKind.u8.wrap (bits BinOp.or IntKind.i64 (IntKind.i64.wrap (dgt a * 16)) (dgt b)) = ((byte2 a b).toNat : Int) := by
  unfold byte2
  rcases dgt_cases a with ha | ⟨x, hx, ha, _⟩ <;> rcases dgt_cases b with hb | ⟨y, hy, hb, _⟩
  · rw [ha, hb]; decide
  · rw [ha, hb]; exact byte2_neg ⟨y, hy⟩
  · rw [ha, hb]; exact byte2_bad ⟨x, hx⟩
  · rw [ha, hb]; exact byte2_fin ⟨x, hx⟩ ⟨y, hy⟩
set_option maxHeartbeats 2000000 in
set_option maxRecDepth 100000 in
theorem unhexed_any (s : ByteArray) (w : World) (hs : s.size ≤ 1000000) : Calls Tryd.prog 25 #[.string s] w fun e w' => e = .returned (.string ⟨(unhexL s.data.toList).toArray⟩) ∧ Chg [] w w' := by
  go_enter Tryd.func25, Tryd.ntmps25
  go_upto_region 3 with fail
  go_loopg [3, 4] s.size (fun g v i wr => ∃ (k cap : Nat) (A : Option Addr), g + k = s.size ∧ i = .int .i64 ((2 * k : Nat) : Int) ∧ 2 * k ≤ s.size ∧ v = .slice A k cap ∧ wr.ownsRow w.heap.size 5 1 (.slice A k cap) k (byteCells (unhexL (s.data.toList.take (2 * k)))) ∧ Chg [] w wr)
  case atStart => exact ⟨0, 0, none, rfl, rfl, Nat.zero_le _, rfl, World.ownsRow_nil _ _ _ _, Chg.refl _ _⟩
  case round =>
    obtain ⟨k, cap, A, hk, rfl, hle, rfl, hown, hC⟩ := hrel
    by_cases hlt : 2 * k + 1 < s.size
    · obtain ⟨j, hj⟩ : ∃ j, 2 * k = j := ⟨_, rfl⟩
      have HT := Lib.hid (unhex_take s.data.toList k hlt)
      have HOwn := Lib.hid hown; have HC := Lib.hid hC; have HK := Lib.hid hk; have HJ := Lib.hid hj
      rw [hj] at hlt hle ⊢
      clear hown hC hk hj
      go_upto_region 5 with fail
      have hj1 : j < s.size := by omega
      have c1 := fun w => index_lit s[j] w
      have c2 := fun w => index_lit s[j + 1] w
      have ew : IntKind.i64.wrap ((j : Int) + 1) = ((j + 1 : Nat) : Int) := by rw [IntWalk.i64_in _ (by omega)]; rfl
      have eb := byte2_eq s[j] s[j + 1]
      have hj0 : 0 ≤ (j : Int) + 1 := by omega
      refine abs_region (B := Chg [] w) (S := fun wz => Chg [] w wz ∧ wz.ownsRow w.heap.size 5 1 (.slice A k cap) k (byteCells (unhexL (s.data.toList.take (2 * k))))) (by kernel_rfl) ⟨(HC.out).drew, HOwn.out⟩ ?_
      have hG : Good (Chg [] w) (fun wz => Chg [] w wz ∧ wz.ownsRow w.heap.size 5 1 (.slice A k cap) k (byteCells (unhexL (s.data.toList.take (2 * k))))) := good_own _ _ _ _ _ _
      refine Abs.tk (i := 0) (d := some 12) (v := ?_) rfl rfl (hG) ⟨by rfl, fun w9 hw9 => Or.inl ?_⟩ ?_
      rotate_left
      · go_simp
        try with_reducible rfl
      simp only [Act.put, stA, stB, stC]
      refine Abs.tk (i := 1) (d := some 13) (v := ?_) rfl rfl (hG) ⟨by rfl, fun w9 hw9 => Or.inl ?_⟩ ?_
      rotate_left
      · go_simp
        try with_reducible rfl
      simp only [Act.put, stA, stB, stC]
      refine Abs.tk (i := 2) (d := some 14) (v := ?_) rfl rfl (hG) ⟨by rfl, fun w9 hw9 => Or.inl ?_⟩ ?_
      rotate_left
      · go_simp
        try with_reducible rfl
      simp only [Act.put, stA, stB, stC]
      refine Abs.tk (i := 3) (d := some 15) (v := ?_) rfl rfl (hG) ⟨by rfl, fun w9 hw9 => Or.inl ?_⟩ ?_
      rotate_left
      · go_simp
        try with_reducible rfl
      simp only [Act.put, stA, stB, stC]
      refine Abs.tk (i := 4) (d := some 16) (v := _) rfl rfl hG ⟨by rfl, fun w9 hw9 => Or.inr ⟨_, _, ?_, (c1 w9).mono fun _ _ h => ⟨h.1, by rw [← h.2]; exact Chg.refl _ _⟩⟩⟩ ?_
      · go_simp
        try with_reducible rfl
      simp only [Act.put, stA, stB, stC]
      refine Abs.tk (i := 5) (d := some 17) (v := ?_) rfl rfl (hG) ⟨by rfl, fun w9 hw9 => Or.inl ?_⟩ ?_
      rotate_left
      · go_simp
        try with_reducible rfl
      simp only [Act.put, stA, stB, stC]
      refine Abs.tk (i := 6) (d := some 18) (v := ?_) rfl rfl (hG) ⟨by rfl, fun w9 hw9 => Or.inl ?_⟩ ?_
      rotate_left
      · go_simp
        try with_reducible rfl
      simp only [Act.put, stA, stB, stC]
      refine Abs.tk (i := 7) (d := some 19) (v := ?_) rfl rfl (hG) ⟨by rfl, fun w9 hw9 => Or.inl ?_⟩ ?_
      rotate_left
      · go_simp
        try with_reducible rfl
      simp only [Act.put, stA, stB, stC]
      refine Abs.tk (i := 8) (d := some 20) (v := ?_) rfl rfl (hG) ⟨by rfl, fun w9 hw9 => Or.inl ?_⟩ ?_
      rotate_left
      · go_simp
        try with_reducible rfl
      simp only [Act.put, stA, stB, stC]
      refine Abs.tk (i := 9) (d := some 21) (v := ?_) rfl rfl (hG) ⟨by rfl, fun w9 hw9 => Or.inl ?_⟩ ?_
      rotate_left
      · go_simp
        try with_reducible rfl
      simp only [Act.put, stA, stB, stC]
      refine Abs.tk (i := 10) (d := some 22) (v := _) rfl rfl hG ⟨by rfl, fun w9 hw9 => Or.inr ⟨_, _, ?_, (c2 w9).mono fun _ _ h => ⟨h.1, by rw [← h.2]; exact Chg.refl _ _⟩⟩⟩ ?_
      · go_simp
        try with_reducible rfl
      simp only [Act.put, stA, stB, stC]
      refine Abs.tk (i := 11) (d := some 23) (v := ?_) rfl rfl (hG) ⟨by rfl, fun w9 hw9 => Or.inl ?_⟩ ?_
      rotate_left
      · go_simp
        try with_reducible rfl
      simp only [Act.put, stA, stB, stC]
      refine Abs.tk (i := 12) (d := some 24) (v := ?_) rfl rfl (hG) ⟨by rfl, fun w9 hw9 => Or.inl ?_⟩ ?_
      rotate_left
      · go_simp
        try with_reducible rfl
      simp only [Act.put, stA, stB, stC]
      refine Abs.lit1 (i := 13) (d := 25) (t := 5) (W := w) #[.int .u8 (byte2 s[j] s[j + 1]).toNat] rfl rfl (by kernel_rfl) (by rfl) hG (fun _ h => h.1) (fun w9 => ?_) (fun gb hgb hG => ?_)
      · go_simp
        try with_reducible rfl
      simp only [Act.put, stA, stB, stC]
      refine Abs.push (i := 14) (d := 26) (.tmp 12) (.tmp 25) 83 rfl rfl rfl (by kernel_rfl) (by rfl) elem_byte rfl gb #[.int .u8 (byte2 s[j] s[j + 1]).toNat] rfl rfl (by simp [Value.oneCell']) (by omega) (by omega) (fun _ h => ⟨h.1.1, h.1.2, h.2⟩) (fun v9 => ?_)
      simp only [Act.put, stA, stB, stC]
      clear hG
      have hG9 := @good_own w 5
      refine Abs.tk (i := 15) (d := some 3) (v := ?_) rfl rfl (hG9 _ _ _ _) ⟨by rfl, fun w9 hw9 => Or.inl ?_⟩ ?_
      rotate_left
      · go_simp
        try with_reducible rfl
      simp only [Act.put, stA, stB, stC]
      refine Abs.done (by kernel_rfl) (fun wx hx => NoPanic.normal ?_) _
      obtain ⟨A', cap', rfl⟩ := own_shape hx.2
      have HX := Lib.hid hx
      clear hx ew eb
      go_wp2_with fail
      go_roundg (s.size - (k + 1))
      case measure => have := HK.out; omega
      case rel =>
        refine ⟨k + 1, _, _, by have := HK.out; have := HJ.out; omega, by have := HJ.out; first | (apply congrArg (Value.int .i64); omega) | (subst this; go_num), by have := HJ.out; omega, rfl, ?_, HX.out.1⟩
        have h := HX.out.2
        have hJ := HJ.out
        subst hJ
        rw [HT.out, byteCells, List.map_append]
        exact h
    · have HOwn := Lib.hid hown; have HC := Lib.hid hC
      have e : unhexL (s.data.toList.take (2 * k)) = unhexL s.data.toList := unhex_all _ k (by show s.data.size = _ ∨ s.data.size = _; have : s.data.size = s.size := rfl; omega)
      have HE := Lib.hid e
      obtain ⟨j, hj⟩ : ∃ j, 2 * k = j := ⟨_, rfl⟩
      rw [hj] at hlt hle ⊢
      have hcv := conv_own hown
      clear hown hC e hk hj
      go_wp2_with fail
      go_ret
      exact ⟨by rw [← HE.out]; rfl, HC.out⟩

end Go.Proofs.YtkcfbacapaonaaaDoor
