/- The walks of curve.Encode and the document's. Printed by encc.py. -/
import Derived.Test.YtplldbmjdnikeaaByteB
import Derived.Test.YtplldbmjdnikeaaRbL
import Derived.Test.YtplldbmjdnikeaaAn
import Derived.Laws.Concat
import Derived.Laws.Bits64b
namespace Go.Proofs.Ytplldbmjdnikeaa
set_option linter.unusedVariables false
set_option linter.unusedSimpArgs false
open Go.RowKit

section
variable {P : Program} {ops : Array Oper} {Q : Exit → Act → World → Prop} {md : Region.Mode} {B : World → Prop}
theorem Abs.build1 {i : Nat} {o : Oper} {d : Tmp} {f : Nat} {S : World → Prop} {listed : Array Bool} {a : Act} {t : TypeId} (cs : Array Value) {X : List Nat} {W : World} (hi : ops[i]? = some o) (hd : o.dst = some d) (hr : Region.ready md ops listed = [i])
    (hw : Region.wanted o (yielded ops a.tmps) = true) (hG : Good B S) (hX : ∀ w, S w → Chg X W w)
    (ho : ∀ w, (execOp a.eval o).run P w = .ok (.value (.slice (some ⟨w.heap.size, 0, none⟩) 1 1)) (w.alloc (.cells cs t)))
    (h : ∀ b, W.heap.size ≤ b → Good B (fun w => S w ∧ w.heap[b]? = some (.cells cs t (0, 0))) → Abs P md ops Q B f (fun w => S w ∧ w.heap[b]? = some (.cells cs t (0, 0))) (listed.setIfInBounds i true) (a.put (some d) (.slice (some ⟨b, 0, none⟩) 1 1))) :
    Abs P md ops Q B (f + 1) S listed a := by
  refine Abs.step hi hr hw fun w hs => ?_
  have hg : Good B (fun w' => S w' ∧ w'.heap[w.heap.size]? = some (Obj.cells cs t (0, 0))) :=
    ⟨fun _ h => hG.base _ h.1, fun _ _ h k => ⟨hG.keep _ _ h.1 k, k.has h.2 nmN⟩⟩
  refine ⟨_, _, hg, h w.heap.size (hX w hs).size hg, _, ⟨hG.keep _ _ hs ((Chg.refl [] w).alloc _), has_alloc_new w _⟩, fun K hK => ?_⟩
  unfold Oper.wp
  rw [ho w]
  show K (a.put o.dst _) _
  rw [hd]
  exact hK
/-- Alone an operation is left that only looks. -/
theorem Abs.look {i : Nat} {o : Oper} {d : Tmp} {v : Value} {f : Nat} {S : World → Prop} {listed : Array Bool} {a : Act} (hi : ops[i]? = some o) (hd : o.dst = some d) (hr : Region.ready md ops listed = [i])
    (hw : Region.wanted o (yielded ops a.tmps) = true) (hG : Good B S) (ho : ∀ w, S w → (execOp a.eval o).run P w = .ok (.value v) w)
    (h : Abs P md ops Q B f S (listed.setIfInBounds i true) (a.put (some d) v)) : Abs P md ops Q B (f + 1) S listed a := by
  refine Abs.step hi hr hw fun w hs => ⟨_, _, hG, h, w, hs, fun K hK => ?_⟩
  unfold Oper.wp
  rw [ho w hs]
  show K (a.put o.dst _) _
  rw [hd]
  exact hK
end
theorem conv_one {w : World} {g : Nat} {c : UInt8} (h : w.heap[g]? = some (.cells #[.int .u8 (c.toNat : Nat)] 5 (0, 0))) :
    (convert 97 9 (.slice (some ⟨g, 0, none⟩) 1 1)).run Try.prog w = .ok (.string ⟨#[c]⟩) w := by
  have h := run_convert_bytes_back (P := Try.prog) w 97 9 5 ⟨g, 0, none⟩ 1 [c] Try.underlying97 Try.underlying5 Try.underlying9 (fun j hj => by
    obtain rfl : j = 0 := by simpa using hj
    rw [addr_add0, cell_of_has h]
    rfl)
  exact h

/-- A point's 33 bytes. -/
def encL : Pc → List UInt8
  | .inf => List.replicate 33 0
  | .aff x y => UInt8.ofNat (2 + y.val % 2) :: beL x.val

theorem inf_on7 : (Pt.inf : Pc).on 7 := trivial
theorem make33 (w : World) : (Instr.makeSlice 97 (.int .i64 33) (.int .i64 33)).run Try.prog w = .ok (.slice (some ⟨w.heap.size, 0, none⟩) 33 33) (w.alloc (.cells #[.int .u8 0, .int .u8 0, .int .u8 0, .int .u8 0, .int .u8 0, .int .u8 0, .int .u8 0, .int .u8 0, .int .u8 0, .int .u8 0, .int .u8 0, .int .u8 0, .int .u8 0, .int .u8 0, .int .u8 0, .int .u8 0, .int .u8 0, .int .u8 0, .int .u8 0, .int .u8 0, .int .u8 0, .int .u8 0, .int .u8 0, .int .u8 0, .int .u8 0, .int .u8 0, .int .u8 0, .int .u8 0, .int .u8 0, .int .u8 0, .int .u8 0, .int .u8 0, .int .u8 0] 5)) := by kernel_rfl
theorem conv33 (w : World) : (convert 97 9 (.slice (some ⟨w.heap.size, 0, none⟩) 33 33)).run Try.prog (w.alloc (.cells #[.int .u8 0, .int .u8 0, .int .u8 0, .int .u8 0, .int .u8 0, .int .u8 0, .int .u8 0, .int .u8 0, .int .u8 0, .int .u8 0, .int .u8 0, .int .u8 0, .int .u8 0, .int .u8 0, .int .u8 0, .int .u8 0, .int .u8 0, .int .u8 0, .int .u8 0, .int .u8 0, .int .u8 0, .int .u8 0, .int .u8 0, .int .u8 0, .int .u8 0, .int .u8 0, .int .u8 0, .int .u8 0, .int .u8 0, .int .u8 0, .int .u8 0, .int .u8 0, .int .u8 0] 5)) = .ok (.string ⟨(List.replicate 33 (0 : UInt8)).toArray⟩) (w.alloc (.cells #[.int .u8 0, .int .u8 0, .int .u8 0, .int .u8 0, .int .u8 0, .int .u8 0, .int .u8 0, .int .u8 0, .int .u8 0, .int .u8 0, .int .u8 0, .int .u8 0, .int .u8 0, .int .u8 0, .int .u8 0, .int .u8 0, .int .u8 0, .int .u8 0, .int .u8 0, .int .u8 0, .int .u8 0, .int .u8 0, .int .u8 0, .int .u8 0, .int .u8 0, .int .u8 0, .int .u8 0, .int .u8 0, .int .u8 0, .int .u8 0, .int .u8 0, .int .u8 0, .int .u8 0] 5)) := by
  have h := run_convert_bytes_back (P := Try.prog) (w.alloc (.cells #[.int .u8 0, .int .u8 0, .int .u8 0, .int .u8 0, .int .u8 0, .int .u8 0, .int .u8 0, .int .u8 0, .int .u8 0, .int .u8 0, .int .u8 0, .int .u8 0, .int .u8 0, .int .u8 0, .int .u8 0, .int .u8 0, .int .u8 0, .int .u8 0, .int .u8 0, .int .u8 0, .int .u8 0, .int .u8 0, .int .u8 0, .int .u8 0, .int .u8 0, .int .u8 0, .int .u8 0, .int .u8 0, .int .u8 0, .int .u8 0, .int .u8 0, .int .u8 0, .int .u8 0] 5)) 97 9 5 ⟨w.heap.size, 0, none⟩ 33 (List.replicate 33 (0 : UInt8)) Try.underlying97 Try.underlying5 Try.underlying9 (fun j hj => by
    rw [List.length_replicate] at hj
    rw [addr_add0, cell_of_has (has_alloc_new _ _), List.getElem_replicate]
    rw [show (#[.int .u8 0, .int .u8 0, .int .u8 0, .int .u8 0, .int .u8 0, .int .u8 0, .int .u8 0, .int .u8 0, .int .u8 0, .int .u8 0, .int .u8 0, .int .u8 0, .int .u8 0, .int .u8 0, .int .u8 0, .int .u8 0, .int .u8 0, .int .u8 0, .int .u8 0, .int .u8 0, .int .u8 0, .int .u8 0, .int .u8 0, .int .u8 0, .int .u8 0, .int .u8 0, .int .u8 0, .int .u8 0, .int .u8 0, .int .u8 0, .int .u8 0, .int .u8 0, .int .u8 0] : Array Value) = Array.replicate 33 (.int .u8 0) from rfl, Array.getElem?_replicate, if_pos hj]
    rfl)
  rw [List.length_replicate] at h
  exact h

set_option maxRecDepth 100000 in
set_option maxHeartbeats 4000000 in
theorem enc_bad {p : Pd} (hb : Bad p) (w : World) :
    Calls Try.prog 27 #[.agg (pv p)] w fun e w' => e = .returned (.tuple #[.string ⟨#[]⟩, .int .i64 30]) ∧ Chg [] w w' := by
  obtain ⟨px, py, pi⟩ := p
  have c1 := fun w => check_bad hb w
  unfold pv at c1 ⊢
  have C1 := Lib.hid c1
  clear c1 hb
  obtain ⟨W0, hW0⟩ : ∃ W0, w.alloc (.cells #[.int .u64 (lm px 0 : Nat), .int .u64 (lm px 1 : Nat), .int .u64 (lm px 2 : Nat), .int .u64 (lm px 3 : Nat), .int .u64 (lm py 0 : Nat), .int .u64 (lm py 1 : Nat), .int .u64 (lm py 2 : Nat), .int .u64 (lm py 3 : Nat), .bool pi] 26) = W0 := ⟨_, rfl⟩
  obtain ⟨B, hB⟩ : ∃ B, w.heap.size = B := ⟨_, rfl⟩
  have HP := Lib.hid (show U9 W0 B px py pi by rw [← hW0, ← hB]; exact has_alloc_new _ _)
  have HC := Lib.hid (show Chg [] w W0 by rw [← hW0]; exact (Chg.refl _ _).alloc _)
  go_enter Try.func27, Try.ntmps27
  go_upto_region 1 with fail
  try rw [hW0]
  try rw [hB]
  clear hW0 hB
  obtain ⟨p0, p1, p2, p3, p4, p5, p6, p7, p8⟩ := HP.out.all
  go_wp2_with fail
  refine (C1.out _).mono ?_
  rintro e w1 ⟨rfl, hC1⟩
  replace HC := Lib.hid (HC.out.trans hC1)
  clear hC1 p0 p1 p2 p3 p4 p5 p6 p7 p8
  go_wp2_with fail
  exact bodyPost_ret (v := .tuple #[.string ⟨#[]⟩, .int .i64 30]) (by simp [results, Try.results27, go_sem]) rfl ⟨rfl, HC.out⟩

set_option maxRecDepth 100000 in
set_option maxHeartbeats 4000000 in
theorem ref_enc_bad {p : Pd} (hb : Bad p) (w : World) :
    Calls Try.prog 28 #[.agg (pv p)] w fun e w' => e = .returned (.tuple #[.string ⟨#[]⟩, .int .i64 30]) ∧ Chg [] w w' := by
  obtain ⟨px, py, pi⟩ := p
  have c1 := fun w => is_bad hb w
  unfold pv at c1 ⊢
  have C1 := Lib.hid c1
  clear c1 hb
  obtain ⟨W0, hW0⟩ : ∃ W0, w.alloc (.cells #[.int .u64 (lm px 0 : Nat), .int .u64 (lm px 1 : Nat), .int .u64 (lm px 2 : Nat), .int .u64 (lm px 3 : Nat), .int .u64 (lm py 0 : Nat), .int .u64 (lm py 1 : Nat), .int .u64 (lm py 2 : Nat), .int .u64 (lm py 3 : Nat), .bool pi] 26) = W0 := ⟨_, rfl⟩
  obtain ⟨B, hB⟩ : ∃ B, w.heap.size = B := ⟨_, rfl⟩
  have HP := Lib.hid (show U9 W0 B px py pi by rw [← hW0, ← hB]; exact has_alloc_new _ _)
  have HC := Lib.hid (show Chg [] w W0 by rw [← hW0]; exact (Chg.refl _ _).alloc _)
  go_enter Try.func28, Try.ntmps28
  go_upto_region 1 with fail
  try rw [hW0]
  try rw [hB]
  clear hW0 hB
  obtain ⟨p0, p1, p2, p3, p4, p5, p6, p7, p8⟩ := HP.out.all
  go_wp2_with fail
  refine (C1.out _).mono ?_
  rintro e w1 ⟨rfl, hC1⟩
  replace HC := Lib.hid (HC.out.trans hC1)
  clear hC1 p0 p1 p2 p3 p4 p5 p6 p7 p8
  go_wp2_with fail
  exact bodyPost_ret (v := .tuple #[.string ⟨#[]⟩, .int .i64 30]) (by simp [results, Try.results28, go_sem]) rfl ⟨rfl, HC.out⟩

set_option maxRecDepth 100000 in
set_option maxHeartbeats 4000000 in
theorem enc_aff {x y : Fin PP} (hP : (Pt.aff x y : Pc).on 7) (w : World) :
    Calls Try.prog 27 #[.agg (pv (ofP (.aff x y)))] w fun e w' => e = .returned (.tuple #[.string ⟨(encL (.aff x y)).toArray⟩, .int .i64 0]) ∧ Chg [] w w' := by
  have c1 := fun w => check_ok hP w
  have hby := fun w => limb_bytes x.val w
  rw [show encL (.aff x y) = UInt8.ofNat (2 + y.val % 2) :: beL x.val from rfl]
  rw [show pv (ofP (.aff x y)) = #[.int .u64 (lm x.val 0 : Nat), .int .u64 (lm x.val 1 : Nat), .int .u64 (lm x.val 2 : Nat), .int .u64 (lm x.val 3 : Nat), .int .u64 (lm y.val 0 : Nat), .int .u64 (lm y.val 1 : Nat), .int .u64 (lm y.val 2 : Nat), .int .u64 (lm y.val 3 : Nat), .bool false] from rfl] at c1 ⊢
  have hpar := bit_nat y.val 0 0 0 (by omega) (by omega)
  rw [Nat.pow_zero, Nat.div_one, Nat.div_one] at hpar
  obtain ⟨px, hpx⟩ : ∃ v, x.val = v := ⟨_, rfl⟩
  obtain ⟨py, hpy⟩ : ∃ v, y.val = v := ⟨_, rfl⟩
  obtain ⟨pi, hpi⟩ : ∃ b, false = b := ⟨_, rfl⟩
  rw [hpx, hpy] at c1 ⊢
  rw [hpx] at hby
  rw [hpy] at hpar
  have hl0 := lm_lt py 0
  have hand := bits_and_u64_nat (lm py 0) 1 hl0 (by omega)
  rw [Nat.and_one_is_mod, hpar] at hand
  have hby2 : (beL px).length = 32 := beL_len px
  obtain ⟨bb, hbb⟩ : ∃ bb, beL px = bb := ⟨_, rfl⟩
  rw [hbb] at hby hby2 ⊢
  have HBy := Lib.hid hby
  obtain ⟨t, ht⟩ : ∃ t, py % 2 = t := ⟨_, rfl⟩
  rw [ht] at hand ⊢
  have ht1 : t = 0 ∨ t = 1 := by omega
  obtain ⟨cc, hcc⟩ : ∃ cc, UInt8.ofNat (2 + t) = cc := ⟨_, rfl⟩
  have hcn : cc.toNat = 2 + t := by rw [← hcc, UInt8.toNat_ofNat']; omega
  rw [hcc]
  have hbv : IntKind.u8.wrap (2 + IntKind.u8.wrap ((t : Nat) : Int)) = (cc.toNat : Nat) := by rw [hcn]; rcases ht1 with rfl | rfl <;> rfl
  have hbv2 : IntKind.u8.wrap (IntKind.u64.wrap (2 + ((t : Nat) : Int))) = (cc.toNat : Nat) := by rw [hcn]; rcases ht1 with rfl | rfl <;> rfl
  replace hand : bits .and .u64 ((lm py 0 : Nat) : Int) 1 = (t : Nat) := hand
  have hrem : ((lm py 0 : Nat) : Int).tmod 2 = (t : Nat) := by rw [Int.tmod_eq_emod_of_nonneg (by omega)]; omega
  clear hcc hcn
  clear hpx hpy hby hbb ht hP hpar
  subst hpi
  have C1 := Lib.hid c1
  clear c1
  obtain ⟨W0, hW0⟩ : ∃ W0, w.alloc (.cells #[.int .u64 (lm px 0 : Nat), .int .u64 (lm px 1 : Nat), .int .u64 (lm px 2 : Nat), .int .u64 (lm px 3 : Nat), .int .u64 (lm py 0 : Nat), .int .u64 (lm py 1 : Nat), .int .u64 (lm py 2 : Nat), .int .u64 (lm py 3 : Nat), .bool false] 26) = W0 := ⟨_, rfl⟩
  obtain ⟨B, hB⟩ : ∃ B, w.heap.size = B := ⟨_, rfl⟩
  have HP := Lib.hid (show U9 W0 B px py false by rw [← hW0, ← hB]; exact has_alloc_new _ _)
  have HC := Lib.hid (show Chg [] w W0 by rw [← hW0]; exact (Chg.refl _ _).alloc _)
  go_enter Try.func27, Try.ntmps27
  go_upto_region 1 with fail
  try rw [hW0]
  try rw [hB]
  clear hW0 hB
  obtain ⟨p0, p1, p2, p3, p4, p5, p6, p7, p8⟩ := HP.out.all
  go_wp2_with fail
  refine (C1.out _).mono ?_
  rintro e w1 ⟨rfl, hC1⟩
  replace HC := Lib.hid (HC.out.trans hC1)
  replace HP := Lib.hid (HP.out.chg hC1 nmN)
  clear hC1 p0 p1 p2 p3 p4 p5 p6 p7 p8
  obtain ⟨p0, p1, p2, p3, p4, p5, p6, p7, p8⟩ := HP.out.all
  go_upto_region 6 with fail
  have HC0 := HC
  have hadd := fun (w : World) => run_string_add_lists (P := Try.prog) (w := w) [cc] bb (by simp) (by rw [hby2]; decide)
  refine abs_region (B := Chg [] w1) (S := Chg [] w1) (by kernel_rfl) ((Chg.refl _ _).drew) ?_
  have hG := good_chg [] w1
  refine Abs.take_np (i := 0) (d := some 14) (v := ?_) rfl rfl (by kernel_rfl) (by kernel_rfl) (by kernel_rfl) hG ⟨by rfl, fun w9 hw9 => Or.inl ?_⟩ ?_
  rotate_left
  · go_simp
    try with_reducible rfl
  simp only [Act.put, stA, stB, stC]
  refine Abs.take_np (i := 1) (d := some 15) (v := ?_) rfl rfl (by kernel_rfl) (by kernel_rfl) (by kernel_rfl) hG ⟨by rfl, fun w9 hw9 => Or.inl ?_⟩ ?_
  rotate_left
  · go_simp
    try with_reducible rfl
  simp only [Act.put, stA, stB, stC]
  refine Abs.take_np (i := 2) (d := some 16) (v := ?_) rfl rfl (by kernel_rfl) (by kernel_rfl) (by kernel_rfl) hG ⟨by rfl, fun w9 hw9 => Or.inl ?_⟩ ?_
  rotate_left
  · replace p4 := hw9.cell p4 nmN
    go_simp
    try with_reducible rfl
  simp only [Act.put, stA, stB, stC]
  refine Abs.take_np (i := 3) (d := some 17) (v := ?_) rfl rfl (by kernel_rfl) (by kernel_rfl) (by kernel_rfl) hG ⟨by rfl, fun w9 hw9 => Or.inl ?_⟩ ?_
  rotate_left
  · go_simp
    try with_reducible rfl
  simp only [Act.put, stA, stB, stC]
  refine Abs.take_np (i := 4) (d := some 18) (v := ?_) rfl rfl (by kernel_rfl) (by kernel_rfl) (by kernel_rfl) hG ⟨by rfl, fun w9 hw9 => Or.inl ?_⟩ ?_
  rotate_left
  · go_simp
    try with_reducible rfl
  simp only [Act.put, stA, stB, stC]
  refine Abs.take_np (i := 5) (d := some 19) (v := ?_) rfl rfl (by kernel_rfl) (by kernel_rfl) (by kernel_rfl) hG ⟨by rfl, fun w9 hw9 => Or.inl ?_⟩ ?_
  rotate_left
  · go_simp
    try with_reducible rfl
  simp only [Act.put, stA, stB, stC]
  refine Abs.take_np (i := 8) (d := some 22) (v := ?_) rfl rfl (by kernel_rfl) (by kernel_rfl) (by kernel_rfl) hG ⟨by rfl, fun w9 hw9 => Or.inl ?_⟩ ?_
  rotate_left
  · go_simp
    try with_reducible rfl
  simp only [Act.put, stA, stB, stC]
  refine Abs.take_np (i := 9) (d := some 23) (v := ?_) rfl rfl (by kernel_rfl) (by kernel_rfl) (by kernel_rfl) hG ⟨by rfl, fun w9 hw9 => Or.inl ?_⟩ ?_
  rotate_left
  · replace p0 := hw9.cell p0 nmN; replace p1 := hw9.cell p1 nmN; replace p2 := hw9.cell p2 nmN; replace p3 := hw9.cell p3 nmN
    go_simp
    try with_reducible rfl
  simp only [Act.put, stA, stB, stC]
  refine Abs.take_np (i := 10) (d := some 24) (v := _) rfl rfl (by kernel_rfl) (by kernel_rfl) (by kernel_rfl) hG ⟨by rfl, fun w9 hw9 => Or.inr ⟨_, _, ?_, HBy.out w9⟩⟩ ?_
  · go_simp
    try with_reducible rfl
  simp only [Act.put, stA, stB, stC]
  refine Abs.build1 (i := 6) (d := 20) (t := 5) (X := []) (W := w1) #[.int .u8 (cc.toNat : Nat)] rfl rfl (by kernel_rfl) (by rfl) hG (fun _ h => h) (fun w9 => ?_) (fun b hb9 hG => ?_)
  · go_simp
    try with_reducible rfl
  simp only [Act.put, stA, stB, stC]
  refine Abs.look (i := 7) (d := 21) (v := ?_) rfl rfl (by kernel_rfl) (by rfl) hG (fun w9 hw9 => ?_) ?_
  rotate_left
  · have hcv := conv_one hw9.2
    go_simp
    try with_reducible rfl
  simp only [Act.put, stA, stB, stC]
  refine Abs.take_np (i := 11) (d := some 25) (v := ?_) rfl rfl (by kernel_rfl) (by kernel_rfl) (by kernel_rfl) hG ⟨by rfl, fun w9 hw9 => Or.inl ?_⟩ ?_
  rotate_left
  · go_simp
    try with_reducible rfl
  simp only [Act.put, stA, stB, stC]
  refine Abs.take_np (i := 12) (d := some 2) (v := ?_) rfl rfl (by kernel_rfl) (by kernel_rfl) (by kernel_rfl) hG ⟨by rfl, fun w9 hw9 => Or.inl ?_⟩ ?_
  rotate_left
  · go_simp
    try with_reducible rfl
  simp only [Act.put, stA, stB, stC]
  refine Abs.take_np (i := 13) (d := some 3) (v := ?_) rfl rfl (by kernel_rfl) (by kernel_rfl) (by kernel_rfl) hG ⟨by rfl, fun w9 hw9 => Or.inl ?_⟩ ?_
  rotate_left
  · go_simp
    try with_reducible rfl
  simp only [Act.put, stA, stB, stC]
  refine Abs.done (by kernel_rfl) (fun wx hx => NoPanic.normal ?_) _
  have HX := Lib.hid (HC.out.trans hx.1)
  go_wp2_with fail
  exact bodyPost_ret (v := .tuple #[.string ⟨(cc :: bb).toArray⟩, .int .i64 0]) (by simp [results, Try.results27, go_sem]) rfl ⟨rfl, HX.out⟩

set_option maxRecDepth 100000 in
set_option maxHeartbeats 4000000 in
theorem ref_enc_aff {x y : Fin PP} (hP : (Pt.aff x y : Pc).on 7) (w : World) :
    Calls Try.prog 28 #[.agg (pv (ofP (.aff x y)))] w fun e w' => e = .returned (.tuple #[.string ⟨(encL (.aff x y)).toArray⟩, .int .i64 0]) ∧ Chg [] w w' := by
  have c1 := fun w => is_ok hP w
  have hby := fun w => ref_bytes x.val w
  rw [show encL (.aff x y) = UInt8.ofNat (2 + y.val % 2) :: beL x.val from rfl]
  rw [show pv (ofP (.aff x y)) = #[.int .u64 (lm x.val 0 : Nat), .int .u64 (lm x.val 1 : Nat), .int .u64 (lm x.val 2 : Nat), .int .u64 (lm x.val 3 : Nat), .int .u64 (lm y.val 0 : Nat), .int .u64 (lm y.val 1 : Nat), .int .u64 (lm y.val 2 : Nat), .int .u64 (lm y.val 3 : Nat), .bool false] from rfl] at c1 ⊢
  have hpar := bit_nat y.val 0 0 0 (by omega) (by omega)
  rw [Nat.pow_zero, Nat.div_one, Nat.div_one] at hpar
  obtain ⟨px, hpx⟩ : ∃ v, x.val = v := ⟨_, rfl⟩
  obtain ⟨py, hpy⟩ : ∃ v, y.val = v := ⟨_, rfl⟩
  obtain ⟨pi, hpi⟩ : ∃ b, false = b := ⟨_, rfl⟩
  rw [hpx, hpy] at c1 ⊢
  rw [hpx] at hby
  rw [hpy] at hpar
  have hl0 := lm_lt py 0
  have hand := bits_and_u64_nat (lm py 0) 1 hl0 (by omega)
  rw [Nat.and_one_is_mod, hpar] at hand
  have hby2 : (beL px).length = 32 := beL_len px
  obtain ⟨bb, hbb⟩ : ∃ bb, beL px = bb := ⟨_, rfl⟩
  rw [hbb] at hby hby2 ⊢
  have HBy := Lib.hid hby
  obtain ⟨t, ht⟩ : ∃ t, py % 2 = t := ⟨_, rfl⟩
  rw [ht] at hand ⊢
  have ht1 : t = 0 ∨ t = 1 := by omega
  obtain ⟨cc, hcc⟩ : ∃ cc, UInt8.ofNat (2 + t) = cc := ⟨_, rfl⟩
  have hcn : cc.toNat = 2 + t := by rw [← hcc, UInt8.toNat_ofNat']; omega
  rw [hcc]
  have hbv : IntKind.u8.wrap (2 + IntKind.u8.wrap ((t : Nat) : Int)) = (cc.toNat : Nat) := by rw [hcn]; rcases ht1 with rfl | rfl <;> rfl
  have hbv2 : IntKind.u8.wrap (IntKind.u64.wrap (2 + ((t : Nat) : Int))) = (cc.toNat : Nat) := by rw [hcn]; rcases ht1 with rfl | rfl <;> rfl
  replace hand : bits .and .u64 ((lm py 0 : Nat) : Int) 1 = (t : Nat) := hand
  have hrem : ((lm py 0 : Nat) : Int).tmod 2 = (t : Nat) := by rw [Int.tmod_eq_emod_of_nonneg (by omega)]; omega
  clear hcc hcn
  clear hpx hpy hby hbb ht hP hpar
  subst hpi
  have C1 := Lib.hid c1
  clear c1
  obtain ⟨W0, hW0⟩ : ∃ W0, w.alloc (.cells #[.int .u64 (lm px 0 : Nat), .int .u64 (lm px 1 : Nat), .int .u64 (lm px 2 : Nat), .int .u64 (lm px 3 : Nat), .int .u64 (lm py 0 : Nat), .int .u64 (lm py 1 : Nat), .int .u64 (lm py 2 : Nat), .int .u64 (lm py 3 : Nat), .bool false] 26) = W0 := ⟨_, rfl⟩
  obtain ⟨B, hB⟩ : ∃ B, w.heap.size = B := ⟨_, rfl⟩
  have HP := Lib.hid (show U9 W0 B px py false by rw [← hW0, ← hB]; exact has_alloc_new _ _)
  have HC := Lib.hid (show Chg [] w W0 by rw [← hW0]; exact (Chg.refl _ _).alloc _)
  go_enter Try.func28, Try.ntmps28
  go_upto_region 1 with fail
  try rw [hW0]
  try rw [hB]
  clear hW0 hB
  obtain ⟨p0, p1, p2, p3, p4, p5, p6, p7, p8⟩ := HP.out.all
  go_wp2_with fail
  refine (C1.out _).mono ?_
  rintro e w1 ⟨rfl, hC1⟩
  replace HC := Lib.hid (HC.out.trans hC1)
  replace HP := Lib.hid (HP.out.chg hC1 nmN)
  clear hC1 p0 p1 p2 p3 p4 p5 p6 p7 p8
  obtain ⟨p0, p1, p2, p3, p4, p5, p6, p7, p8⟩ := HP.out.all
  go_upto_region 5 with fail
  have HC0 := HC
  have hadd := fun (w : World) => run_string_add_lists (P := Try.prog) (w := w) [cc] bb (by simp) (by rw [hby2]; decide)
  refine abs_region (B := Chg [] w1) (S := Chg [] w1) (by kernel_rfl) ((Chg.refl _ _).drew) ?_
  have hG := good_chg [] w1
  refine Abs.take_np (i := 0) (d := some 11) (v := ?_) rfl rfl (by kernel_rfl) (by kernel_rfl) (by kernel_rfl) hG ⟨by rfl, fun w9 hw9 => Or.inl ?_⟩ ?_
  rotate_left
  · go_simp
    try with_reducible rfl
  simp only [Act.put, stA, stB, stC]
  refine Abs.take_np (i := 1) (d := some 12) (v := ?_) rfl rfl (by kernel_rfl) (by kernel_rfl) (by kernel_rfl) hG ⟨by rfl, fun w9 hw9 => Or.inl ?_⟩ ?_
  rotate_left
  · go_simp
    try with_reducible rfl
  simp only [Act.put, stA, stB, stC]
  refine Abs.take_np (i := 2) (d := some 13) (v := ?_) rfl rfl (by kernel_rfl) (by kernel_rfl) (by kernel_rfl) hG ⟨by rfl, fun w9 hw9 => Or.inl ?_⟩ ?_
  rotate_left
  · replace p4 := hw9.cell p4 nmN
    go_simp
    try with_reducible rfl
  simp only [Act.put, stA, stB, stC]
  refine Abs.take_np (i := 3) (d := some 14) (v := ?_) rfl rfl (by kernel_rfl) (by kernel_rfl) (by kernel_rfl) hG ⟨by rfl, fun w9 hw9 => Or.inl ?_⟩ ?_
  rotate_left
  · go_simp
    try with_reducible rfl
  simp only [Act.put, stA, stB, stC]
  refine Abs.take_np (i := 4) (d := some 15) (v := ?_) rfl rfl (by kernel_rfl) (by kernel_rfl) (by kernel_rfl) hG ⟨by rfl, fun w9 hw9 => Or.inl ?_⟩ ?_
  rotate_left
  · go_simp
    try with_reducible rfl
  simp only [Act.put, stA, stB, stC]
  refine Abs.take_np (i := 5) (d := some 16) (v := ?_) rfl rfl (by kernel_rfl) (by kernel_rfl) (by kernel_rfl) hG ⟨by rfl, fun w9 hw9 => Or.inl ?_⟩ ?_
  rotate_left
  · go_simp
    try with_reducible rfl
  simp only [Act.put, stA, stB, stC]
  refine Abs.take_np (i := 8) (d := some 19) (v := ?_) rfl rfl (by kernel_rfl) (by kernel_rfl) (by kernel_rfl) hG ⟨by rfl, fun w9 hw9 => Or.inl ?_⟩ ?_
  rotate_left
  · go_simp
    try with_reducible rfl
  simp only [Act.put, stA, stB, stC]
  refine Abs.take_np (i := 9) (d := some 20) (v := ?_) rfl rfl (by kernel_rfl) (by kernel_rfl) (by kernel_rfl) hG ⟨by rfl, fun w9 hw9 => Or.inl ?_⟩ ?_
  rotate_left
  · replace p0 := hw9.cell p0 nmN; replace p1 := hw9.cell p1 nmN; replace p2 := hw9.cell p2 nmN; replace p3 := hw9.cell p3 nmN
    go_simp
    try with_reducible rfl
  simp only [Act.put, stA, stB, stC]
  refine Abs.take_np (i := 10) (d := some 21) (v := _) rfl rfl (by kernel_rfl) (by kernel_rfl) (by kernel_rfl) hG ⟨by rfl, fun w9 hw9 => Or.inr ⟨_, _, ?_, HBy.out w9⟩⟩ ?_
  · go_simp
    try with_reducible rfl
  simp only [Act.put, stA, stB, stC]
  refine Abs.build1 (i := 6) (d := 17) (t := 5) (X := []) (W := w1) #[.int .u8 (cc.toNat : Nat)] rfl rfl (by kernel_rfl) (by rfl) hG (fun _ h => h) (fun w9 => ?_) (fun b hb9 hG => ?_)
  · go_simp
    try with_reducible rfl
  simp only [Act.put, stA, stB, stC]
  refine Abs.look (i := 7) (d := 18) (v := ?_) rfl rfl (by kernel_rfl) (by rfl) hG (fun w9 hw9 => ?_) ?_
  rotate_left
  · have hcv := conv_one hw9.2
    go_simp
    try with_reducible rfl
  simp only [Act.put, stA, stB, stC]
  refine Abs.take_np (i := 11) (d := some 22) (v := ?_) rfl rfl (by kernel_rfl) (by kernel_rfl) (by kernel_rfl) hG ⟨by rfl, fun w9 hw9 => Or.inl ?_⟩ ?_
  rotate_left
  · go_simp
    try with_reducible rfl
  simp only [Act.put, stA, stB, stC]
  refine Abs.take_np (i := 12) (d := some 2) (v := ?_) rfl rfl (by kernel_rfl) (by kernel_rfl) (by kernel_rfl) hG ⟨by rfl, fun w9 hw9 => Or.inl ?_⟩ ?_
  rotate_left
  · go_simp
    try with_reducible rfl
  simp only [Act.put, stA, stB, stC]
  refine Abs.take_np (i := 13) (d := some 3) (v := ?_) rfl rfl (by kernel_rfl) (by kernel_rfl) (by kernel_rfl) hG ⟨by rfl, fun w9 hw9 => Or.inl ?_⟩ ?_
  rotate_left
  · go_simp
    try with_reducible rfl
  simp only [Act.put, stA, stB, stC]
  refine Abs.done (by kernel_rfl) (fun wx hx => NoPanic.normal ?_) _
  have HX := Lib.hid (HC.out.trans hx.1)
  go_wp2_with fail
  exact bodyPost_ret (v := .tuple #[.string ⟨(cc :: bb).toArray⟩, .int .i64 0]) (by simp [results, Try.results28, go_sem]) rfl ⟨rfl, HX.out⟩

set_option maxRecDepth 100000 in
set_option maxHeartbeats 4000000 in
theorem enc_inf (w : World) : Calls Try.prog 27 #[.agg (pv (ofP .inf))] w fun e w' => e = .returned (.tuple #[.string ⟨(encL .inf).toArray⟩, .int .i64 0]) ∧ Chg [] w w' := by
  have c1 := fun w => check_ok inf_on7 w
  rw [show pv (ofP .inf) = #[.int .u64 (lm 0 0 : Nat), .int .u64 (lm 0 1 : Nat), .int .u64 (lm 0 2 : Nat), .int .u64 (lm 0 3 : Nat), .int .u64 (lm 0 0 : Nat), .int .u64 (lm 0 1 : Nat), .int .u64 (lm 0 2 : Nat), .int .u64 (lm 0 3 : Nat), .bool true] from rfl] at c1 ⊢
  rw [show encL .inf = List.replicate 33 0 from rfl]
  have hmk := make33
  have hcv := conv33
  obtain ⟨z, hz⟩ : ∃ z : ByteArray, ⟨(List.replicate 33 (0 : UInt8)).toArray⟩ = z := ⟨_, rfl⟩
  rw [hz] at hcv ⊢
  obtain ⟨px, hpx⟩ : ∃ v : Nat, 0 = v := ⟨_, rfl⟩
  obtain ⟨py, hpy⟩ : ∃ v : Nat, 0 = v := ⟨_, rfl⟩
  rw [show (#[.int .u64 (lm 0 0 : Nat), .int .u64 (lm 0 1 : Nat), .int .u64 (lm 0 2 : Nat), .int .u64 (lm 0 3 : Nat), .int .u64 (lm 0 0 : Nat), .int .u64 (lm 0 1 : Nat), .int .u64 (lm 0 2 : Nat), .int .u64 (lm 0 3 : Nat), .bool true] : Array Value) = #[.int .u64 (lm px 0 : Nat), .int .u64 (lm px 1 : Nat), .int .u64 (lm px 2 : Nat), .int .u64 (lm px 3 : Nat), .int .u64 (lm py 0 : Nat), .int .u64 (lm py 1 : Nat), .int .u64 (lm py 2 : Nat), .int .u64 (lm py 3 : Nat), .bool true] by rw [← hpx, ← hpy]] at c1 ⊢
  clear hpx hpy hz
  have C1 := Lib.hid c1
  clear c1
  obtain ⟨W0, hW0⟩ : ∃ W0, w.alloc (.cells #[.int .u64 (lm px 0 : Nat), .int .u64 (lm px 1 : Nat), .int .u64 (lm px 2 : Nat), .int .u64 (lm px 3 : Nat), .int .u64 (lm py 0 : Nat), .int .u64 (lm py 1 : Nat), .int .u64 (lm py 2 : Nat), .int .u64 (lm py 3 : Nat), .bool true] 26) = W0 := ⟨_, rfl⟩
  obtain ⟨B, hB⟩ : ∃ B, w.heap.size = B := ⟨_, rfl⟩
  have HP := Lib.hid (show U9 W0 B px py true by rw [← hW0, ← hB]; exact has_alloc_new _ _)
  have HC := Lib.hid (show Chg [] w W0 by rw [← hW0]; exact (Chg.refl _ _).alloc _)
  go_enter Try.func27, Try.ntmps27
  go_upto_region 1 with fail
  try rw [hW0]
  try rw [hB]
  clear hW0 hB
  obtain ⟨p0, p1, p2, p3, p4, p5, p6, p7, p8⟩ := HP.out.all
  go_wp2_with fail
  refine (C1.out _).mono ?_
  rintro e w1 ⟨rfl, hC1⟩
  replace HC := Lib.hid (HC.out.trans hC1)
  replace HP := Lib.hid (HP.out.chg hC1 nmN)
  clear hC1 p0 p1 p2 p3 p4 p5 p6 p7 p8
  obtain ⟨p0, p1, p2, p3, p4, p5, p6, p7, p8⟩ := HP.out.all
  have HC9 := Lib.hid (HC.out.alloc (.cells #[.int .u8 0, .int .u8 0, .int .u8 0, .int .u8 0, .int .u8 0, .int .u8 0, .int .u8 0, .int .u8 0, .int .u8 0, .int .u8 0, .int .u8 0, .int .u8 0, .int .u8 0, .int .u8 0, .int .u8 0, .int .u8 0, .int .u8 0, .int .u8 0, .int .u8 0, .int .u8 0, .int .u8 0, .int .u8 0, .int .u8 0, .int .u8 0, .int .u8 0, .int .u8 0, .int .u8 0, .int .u8 0, .int .u8 0, .int .u8 0, .int .u8 0, .int .u8 0, .int .u8 0] 5))
  go_wp2_with fail
  exact bodyPost_ret (v := .tuple #[.string z, .int .i64 0]) (by simp [results, Try.results27, go_sem]) rfl ⟨rfl, HC9.out⟩

set_option maxRecDepth 100000 in
set_option maxHeartbeats 4000000 in
theorem ref_enc_inf (w : World) : Calls Try.prog 28 #[.agg (pv (ofP .inf))] w fun e w' => e = .returned (.tuple #[.string ⟨(encL .inf).toArray⟩, .int .i64 0]) ∧ Chg [] w w' := by
  have c1 := fun w => is_ok inf_on7 w
  rw [show pv (ofP .inf) = #[.int .u64 (lm 0 0 : Nat), .int .u64 (lm 0 1 : Nat), .int .u64 (lm 0 2 : Nat), .int .u64 (lm 0 3 : Nat), .int .u64 (lm 0 0 : Nat), .int .u64 (lm 0 1 : Nat), .int .u64 (lm 0 2 : Nat), .int .u64 (lm 0 3 : Nat), .bool true] from rfl] at c1 ⊢
  rw [show encL .inf = List.replicate 33 0 from rfl]
  have hmk := make33
  have hcv := conv33
  obtain ⟨z, hz⟩ : ∃ z : ByteArray, ⟨(List.replicate 33 (0 : UInt8)).toArray⟩ = z := ⟨_, rfl⟩
  rw [hz] at hcv ⊢
  obtain ⟨px, hpx⟩ : ∃ v : Nat, 0 = v := ⟨_, rfl⟩
  obtain ⟨py, hpy⟩ : ∃ v : Nat, 0 = v := ⟨_, rfl⟩
  rw [show (#[.int .u64 (lm 0 0 : Nat), .int .u64 (lm 0 1 : Nat), .int .u64 (lm 0 2 : Nat), .int .u64 (lm 0 3 : Nat), .int .u64 (lm 0 0 : Nat), .int .u64 (lm 0 1 : Nat), .int .u64 (lm 0 2 : Nat), .int .u64 (lm 0 3 : Nat), .bool true] : Array Value) = #[.int .u64 (lm px 0 : Nat), .int .u64 (lm px 1 : Nat), .int .u64 (lm px 2 : Nat), .int .u64 (lm px 3 : Nat), .int .u64 (lm py 0 : Nat), .int .u64 (lm py 1 : Nat), .int .u64 (lm py 2 : Nat), .int .u64 (lm py 3 : Nat), .bool true] by rw [← hpx, ← hpy]] at c1 ⊢
  clear hpx hpy hz
  have C1 := Lib.hid c1
  clear c1
  obtain ⟨W0, hW0⟩ : ∃ W0, w.alloc (.cells #[.int .u64 (lm px 0 : Nat), .int .u64 (lm px 1 : Nat), .int .u64 (lm px 2 : Nat), .int .u64 (lm px 3 : Nat), .int .u64 (lm py 0 : Nat), .int .u64 (lm py 1 : Nat), .int .u64 (lm py 2 : Nat), .int .u64 (lm py 3 : Nat), .bool true] 26) = W0 := ⟨_, rfl⟩
  obtain ⟨B, hB⟩ : ∃ B, w.heap.size = B := ⟨_, rfl⟩
  have HP := Lib.hid (show U9 W0 B px py true by rw [← hW0, ← hB]; exact has_alloc_new _ _)
  have HC := Lib.hid (show Chg [] w W0 by rw [← hW0]; exact (Chg.refl _ _).alloc _)
  go_enter Try.func28, Try.ntmps28
  go_upto_region 1 with fail
  try rw [hW0]
  try rw [hB]
  clear hW0 hB
  obtain ⟨p0, p1, p2, p3, p4, p5, p6, p7, p8⟩ := HP.out.all
  go_wp2_with fail
  refine (C1.out _).mono ?_
  rintro e w1 ⟨rfl, hC1⟩
  replace HC := Lib.hid (HC.out.trans hC1)
  replace HP := Lib.hid (HP.out.chg hC1 nmN)
  clear hC1 p0 p1 p2 p3 p4 p5 p6 p7 p8
  obtain ⟨p0, p1, p2, p3, p4, p5, p6, p7, p8⟩ := HP.out.all
  have HC9 := Lib.hid (HC.out.alloc (.cells #[.int .u8 0, .int .u8 0, .int .u8 0, .int .u8 0, .int .u8 0, .int .u8 0, .int .u8 0, .int .u8 0, .int .u8 0, .int .u8 0, .int .u8 0, .int .u8 0, .int .u8 0, .int .u8 0, .int .u8 0, .int .u8 0, .int .u8 0, .int .u8 0, .int .u8 0, .int .u8 0, .int .u8 0, .int .u8 0, .int .u8 0, .int .u8 0, .int .u8 0, .int .u8 0, .int .u8 0, .int .u8 0, .int .u8 0, .int .u8 0, .int .u8 0, .int .u8 0, .int .u8 0] 5))
  go_wp2_with fail
  exact bodyPost_ret (v := .tuple #[.string z, .int .i64 0]) (by simp [results, Try.results28, go_sem]) rfl ⟨rfl, HC9.out⟩

end Go.Proofs.Ytplldbmjdnikeaa
