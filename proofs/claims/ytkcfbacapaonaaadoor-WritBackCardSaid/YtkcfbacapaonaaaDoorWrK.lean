/- A choice's line: the walk of writ.line. Printed by linep.py. -/
import Derived.Test.YtkcfbacapaonaaaDoorWrKa
namespace Go.Proofs.YtkcfbacapaonaaaDoor
set_option linter.unusedVariables false
set_option linter.unusedSimpArgs false
open Go.RowKit Go.Lib

def CB (w : World) (b : Nat) (x : Ch) : Prop := w.heap[b]? = some (.cells (cv x) 61 (0, 0))
theorem CB.chg {w w' : World} {b : Nat} {x : Ch} (h : CB w b x) (c : Chg [] w w') : CB w' b x := c.has h nmN
theorem CB.all {w : World} {b : Nat} {x : Ch} (h : CB w b x) : w.cell? ⟨b, 0, none⟩ = some (.int .i64 x.kind) ∧ w.cell? ⟨b, 1, none⟩ = some (.int .i64 x.node) ∧ w.cell? ⟨b, 2, none⟩ = some (.int .i64 x.n) ∧ w.cell? ⟨b, 3, none⟩ = some (.int .i64 x.id) ∧ w.cell? ⟨b, 4, none⟩ = some (.int .i64 x.mask) ∧ w.cell? ⟨b, 5, none⟩ = some (.string ⟨x.m.toArray⟩) :=
  ⟨cell_of_has h 0, cell_of_has h 1, cell_of_has h 2, cell_of_has h 3, cell_of_has h 4, cell_of_has h 5⟩
theorem CB.fz {w : World} {b : Nat} {x : Ch} (h : CB w b x) (i : Nat) : w.frozen? ⟨b, i, none⟩ = false := frozen_of_has h i
theorem tailL_len {x : Ch} (hx : x.ok) (hm : x.m.length ≤ 1000000) (cs : List UInt8) : (tailL x cs).length ≤ cs.length * 2000002 := by
  have hf : ∀ c, (fieldL x c).length ≤ 2000001 := fun c => by
    unfold fieldL
    split
    · have := hexL_len x.m; omega
    · have h := getI_in hx c
      have := itoa_length_le (getI x c) h.1 h.2
      omega
  induction cs with
  | nil => simp [tailL]
  | cons c r ih =>
    have := hf c
    have e : tailL x (c :: r) = (32 :: fieldL x c) ++ tailL x r := by unfold tailL; rw [List.flatMap_cons]
    rw [e]
    simp only [List.length_append, List.length_cons]
    omega
theorem tailL_snoc (x : Ch) (cs : List UInt8) (c : UInt8) : tailL x (cs ++ [c]) = tailL x cs ++ ([32] ++ fieldL x c) := by unfold tailL; rw [List.flatMap_append]; simp
theorem wordL_len (k : Int) : (wordL k).length ≤ 7 := by
  rcases kind_cases k with h | ⟨h, _, _⟩
  · rcases h with rfl | rfl | rfl | rfl | rfl | rfl | rfl | rfl | rfl | rfl <;> decide
  · rw [h]; decide
theorem namesL_len (k : Int) : (namesL k).length ≤ 3 := by
  rcases kind_cases k with h | ⟨_, h, _⟩
  · rcases h with rfl | rfl | rfl | rfl | rfl | rfl | rfl | rfl | rfl | rfl <;> decide
  · rw [h]; decide
theorem namesL_set {k : Int} {c : UInt8} (h : c ∈ namesL k) : c = 110 ∨ c = 107 ∨ c = 105 ∨ c = 109 ∨ c = 116 := by
  rcases kind_cases k with h1 | ⟨_, h1, _⟩
  · rcases h1 with rfl | rfl | rfl | rfl | rfl | rfl | rfl | rfl | rfl | rfl <;> exact (show ∀ c ∈ namesL _, c = 110 ∨ c = 107 ∨ c = 105 ∨ c = 109 ∨ c = 116 from by decide) c h
  · rw [h1] at h; cases h
theorem place_c (b : Nat) (c : UInt8) {o : Nat} (h : offC c = o) (w : World) : Calls Tryd.prog 34 #[.pointer (some ⟨b, 0, none⟩), .int .u8 c.toNat] w fun e w' => e = .returned (.pointer (some ⟨b, o, none⟩)) ∧ Chg [] w w' :=
  (place_any b c w).mono fun _ _ h' => ⟨by rw [h'.1, h], by rw [← h'.2]; exact Chg.refl _ _⟩
theorem sp_op {b f : List UInt8} (h : b.length ≤ 10000000) (hf : [32] ++ b = f) (w : World) : (Op.stringOp .add ⟨#[32]⟩ ⟨b.toArray⟩).run Tryd.prog w = .ok (.string ⟨f.toArray⟩) w := by
  have := str_op (a := [32]) (b := b) (by simp; omega) w
  rw [hf] at this
  exact this
theorem mk_size (l : List UInt8) : (⟨l.toArray⟩ : ByteArray).size = l.length := rfl

set_option maxRecDepth 100000 in
set_option maxHeartbeats 16000000 in
theorem line_any (x : Ch) (hx : x.ok) (hm : x.m.length ≤ 1000000) (w : World) (hg : GW w) : Calls Tryd.prog 18 #[.agg (cv x)] w fun e w' =>
    e = .returned (.tuple #[.string ⟨(lineL x).toArray⟩, .bool (decide (lineOk' x))]) ∧ Chg [] w w' := by
  obtain ⟨bx, hbx⟩ : ∃ b, w.heap.size = b := ⟨_, rfl⟩
  obtain ⟨W1, hW1⟩ : ∃ W1, w.alloc (.cells (cv x) 61) = W1 := ⟨_, rfl⟩
  have hX : CB W1 bx x := by rw [← hW1, ← hbx]; exact has_alloc_new _ _
  have hC1 : Chg [] w W1 := by rw [← hW1]; exact (Chg.refl _ _).alloc _
  obtain ⟨x0, x1, x2, x3, x4, x5⟩ := hX.all
  have c1 := Lib.hid (fun w => shape_any x.kind w)
  obtain ⟨ws, hws⟩ : ∃ l, wordL x.kind = l := ⟨_, rfl⟩
  obtain ⟨ns, hns⟩ : ∃ l, namesL x.kind = l := ⟨_, rfl⟩
  rw [hws, hns] at c1
  obtain ⟨nb, hnb⟩ : ∃ nb : ByteArray, ⟨ns.toArray⟩ = nb := ⟨_, rfl⟩
  have hnl : nb.data.toList = ns := by rw [← hnb]
  have hns9 : nb.size = ns.length := by rw [← hnb]; rfl
  rw [hnb] at c1
  have hns3 : ns.length ≤ 3 := by rw [← hns]; exact namesL_len _
  have hws7 : ws.length ≤ 7 := by rw [← hws]; exact wordL_len _
  have hset : ∀ c ∈ ns, c = 110 ∨ c = 107 ∨ c = 105 ∨ c = 109 ∨ c = 116 := fun c h => namesL_set (k := x.kind) (by rw [hns]; exact h)
  have HX := Lib.hid hX; have HC1 := Lib.hid hC1; have HW1 := Lib.hid hW1; have Hbx := Lib.hid hbx; have Hns := Lib.hid hns; have Hws := Lib.hid hws; have HSet := Lib.hid hset; have Hnl := Lib.hid hnl; have Hnsz := Lib.hid hns9
  have HG := Lib.hid hg
  have hnb3 : nb.size ≤ 3 := by omega
  clear hX hC1 hW1 hbx hns hws hset hg hnb hnl hns9 hns3
  go_enter Tryd.func18, Tryd.ntmps18
  go_upto_region 1 with fail
  try rw [show (w.alloc (.cells #[.int .i64 x.kind, .int .i64 x.node, .int .i64 x.n, .int .i64 x.id, .int .i64 x.mask, .string ⟨x.m.toArray⟩] 61)) = W1 from HW1.out]
  try rw [show (w.alloc (.cells (cv x) 61)) = W1 from HW1.out]
  try rw [Hbx.out]
  go_wp2_with fail
  refine (c1.out _).mono ?_
  rintro e w1 ⟨rfl, rfl⟩
  go_upto_region 4 with fail
  obtain ⟨bY, hbY⟩ : ∃ b, W1.heap.size = b := ⟨_, rfl⟩
  obtain ⟨W2, hW2⟩ : ∃ W2, W1.alloc (.cells #[.int .i64 x.kind, .int .i64 0, .int .i64 0, .int .i64 0, .int .i64 0, .string ⟨#[]⟩] 61) = W2 := ⟨_, rfl⟩
  have hY : CB W2 bY (Ch.of x.kind) := by rw [← hW2, ← hbY]; exact has_alloc_new _ _
  have hC2 : Chg [] W1 W2 := by rw [← hW2]; exact (Chg.refl _ _).alloc _
  have hle : W1.heap.size ≤ bY := Nat.le_of_eq hbY
  try rw [show W1.alloc (.cells #[.int .i64 x.kind, .int .i64 0, .int .i64 0, .int .i64 0, .int .i64 0, .string ByteArray.empty] 61) = W2 from hW2]
  try rw [hW2]
  try rw [hbY]
  have HY := Lib.hid hY; have HC2 := Lib.hid hC2; have HLe := Lib.hid hle
  clear hY hC2 hW2 hbY hle
  go_wp2_with fail
  go_loopg [6, 8, 21] nb.size (fun g o _ i wr => ∃ k : Nat, g + k = nb.size ∧ i = .int .i64 k ∧ o = .string ⟨(ws ++ tailL x (ns.take k)).toArray⟩ ∧ CB wr bY ((ns.take k).foldl (cp x) (Ch.of x.kind)) ∧ Chg [] W1 wr)
  case atStart => exact ⟨0, rfl, rfl, by simp [tailL], HY.out, HC2.out⟩
  case round =>
    obtain ⟨k, hk, rfl, rfl, hCB, hC⟩ := hrel
    obtain ⟨y, hy⟩ : ∃ y, (ns.take k).foldl (cp x) (Ch.of x.kind) = y := ⟨_, rfl⟩
    rw [hy] at hCB
    obtain ⟨o, ho⟩ : ∃ o, ws ++ tailL x (ns.take k) = o := ⟨_, rfl⟩
    rw [ho]
    by_cases hlt : k < nb.size
    · have hol : o.length ≤ 10000000 := by
        rw [← ho, List.length_append]
        have h1 := tailL_len hx hm (ns.take k)
        have h2 : (ns.take k).length ≤ 3 := by rw [List.length_take]; omega
        omega
      obtain ⟨c, hc⟩ : ∃ c, nb[k] = c := ⟨_, rfl⟩
      have hnk : k < ns.length := by rw [← Hnsz.out]; exact hlt
      have hcn : ns[k] = c := by rw [← hc]; have := Hnl.out; subst this; rfl
      have htk : ns.take (k + 1) = ns.take k ++ [c] := by rw [List.take_succ_eq_append_getElem hnk, hcn]
      have hcs := HSet.out c (by rw [← hcn]; exact List.getElem_mem hnk)
      have hfold : (ns.take (k + 1)).foldl (cp x) (Ch.of x.kind) = cp x y c := by rw [htk, List.foldl_append, hy]; rfl
      have htail : ws ++ tailL x (ns.take (k + 1)) = o ++ ([32] ++ fieldL x c) := by rw [htk, tailL_snoc, ← List.append_assoc, ho]
      have HCB := Lib.hid hCB; have HC := Lib.hid hC; have HK := Lib.hid hk; have HFold := Lib.hid hfold; have HTail := Lib.hid htail; have Hc := Lib.hid hc
      clear hCB hC hk hy ho hcn htk hfold htail
      have hin := fun c => getI_in hx c
      have hgi := HG.out.chg (HC1.out.trans HC.out)
      rcases hcs with rfl | rfl | rfl | rfl | rfl
      · go_upto_region 10 with fail
        have pl := fun b w => place_c b 110 (o := 1) rfl w
        have cI := Lib.hid (itoa_any (n := x.node) (hin 110))
        refine abs_region (B := Chg [] W1) (S := fun wz => Chg [] W1 wz ∧ wz.heap[bY]? = some (.cells (cv y) 61 (0, 0))) (by kernel_rfl) ⟨HC.out.drew, HCB.out⟩ ?_
        have hG := good_at [] W1 bY (.cells (cv y) 61 (0, 0))
        refine Abs.tk (i := 0) (d := some 37) (v := ?_) rfl rfl hG ⟨by rfl, fun w9 hw9 => Or.inl ?_⟩ ?_
        rotate_left
        · go_simp
          try with_reducible rfl
        simp only [Act.put, stA, stB, stC]
        refine Abs.tk (i := 1) (d := some 38) (v := ?_) rfl rfl hG ⟨by rfl, fun w9 hw9 => Or.inl ?_⟩ ?_
        rotate_left
        · go_simp
          try with_reducible rfl
        simp only [Act.put, stA, stB, stC]
        refine Abs.tk (i := 2) (d := some 39) (v := ?_) rfl rfl hG ⟨by rfl, fun w9 hw9 => Or.inl ?_⟩ ?_
        rotate_left
        · go_simp
          try with_reducible rfl
        simp only [Act.put, stA, stB, stC]
        refine Abs.tk (i := 3) (d := some 40) (v := _) rfl rfl hG ⟨by rfl, fun w9 hw9 => Or.inr ⟨_, _, ?_, pl bY w9⟩⟩ ?_
        · go_simp
          try with_reducible rfl
        simp only [Act.put, stA, stB, stC]
        refine Abs.tk (i := 4) (d := some 41) (v := ?_) rfl rfl hG ⟨by rfl, fun w9 hw9 => Or.inl ?_⟩ ?_
        rotate_left
        · go_simp
          try with_reducible rfl
        simp only [Act.put, stA, stB, stC]
        refine Abs.tk (i := 5) (d := some 42) (v := ?_) rfl rfl hG ⟨by rfl, fun w9 hw9 => Or.inl ?_⟩ ?_
        rotate_left
        · go_simp
          try with_reducible rfl
        simp only [Act.put, stA, stB, stC]
        refine Abs.tk (i := 6) (d := some 43) (v := ?_) rfl rfl hG ⟨by rfl, fun w9 hw9 => Or.inl ?_⟩ ?_
        rotate_left
        · go_simp
          try with_reducible rfl
        simp only [Act.put, stA, stB, stC]
        refine Abs.tk (i := 7) (d := some 44) (v := _) rfl rfl hG ⟨by rfl, fun w9 hw9 => Or.inr ⟨_, _, ?_, pl bx w9⟩⟩ ?_
        · go_simp
          try with_reducible rfl
        simp only [Act.put, stA, stB, stC]
        refine Abs.tk (i := 8) (d := some 45) (v := ?_) rfl rfl hG ⟨by rfl, fun w9 hw9 => Or.inl ?_⟩ ?_
        rotate_left
        · go_simp
          try with_reducible rfl
        simp only [Act.put, stA, stB, stC]
        refine Abs.tk (i := 9) (d := some 46) (v := ?_) rfl rfl hG ⟨by rfl, fun w9 hw9 => Or.inl ?_⟩ ?_
        rotate_left
        · replace x1 := hw9.cell x1 nmN
          go_simp
          try with_reducible rfl
        simp only [Act.put, stA, stB, stC]
        refine Abs.tk (i := 10) (d := some 47) (v := ?_) rfl rfl hG ⟨by rfl, fun w9 hw9 => Or.inl ?_⟩ ?_
        rotate_left
        · go_simp
          try with_reducible rfl
        simp only [Act.put, stA, stB, stC]
        refine Abs.store4 (i := 11) (b := bY) (ds := cv (cp x y 110)) rfl (by kernel_rfl) (by rfl) (fun w9 => w9.setCell ⟨bY, 1, none⟩ (.int .i64 x.node)) (fun w9 h9 => ⟨?_, has_set h9 1 _, (Chg.refl _ _).setCell (Or.inl (by simp)) _⟩) (fun _ _ h k => Chg.keeps (Or.inr HLe.out) h k) (good_chg [] W1) (fun hG => ?_)
        · have n0 := cell_of_has h9 1
          have z0 := frozen_of_has h9 1
          simp only [cv, glA, glB, glC] at n0
          clear h9
          go_simp
          try with_reducible rfl
        refine Abs.at_put (d := none) rfl ?_
        simp only [Act.put, stA, stB, stC]
        refine Abs.done (by kernel_rfl) (fun wx hx => NoPanic.normal ?_) _
        have HX9 := Lib.hid hx
        clear hx hG
        obtain ⟨y0, y1, y2, y3, y4, y5⟩ := (HX.out.chg HX9.out.1).all
        go_wp2_with fail
        refine (pl bx wx).mono ?_
        rintro e w1 ⟨rfl, hC3⟩
        have HC3 := Lib.hid (HX9.out.1.trans hC3)
        have HC4 := Lib.hid hC3
        clear hC3 y0 y1 y2 y3 y4 y5
        obtain ⟨y0, y1, y2, y3, y4, y5⟩ := (HX.out.chg HC3.out).all
        go_wp2_with fail
        refine (cI.out _ (HG.out.chg (HC1.out.trans HC3.out))).mono ?_
        rintro e w2 ⟨rfl, hC5⟩
        have HC5 := Lib.hid (HC3.out.trans hC5)
        have HC6 := Lib.hid (HC4.out.trans hC5)
        clear hC5 y0 y1 y2 y3 y4 y5
        have hil : (itoa x.node).length ≤ 21 := itoa_length_le x.node (hin 110).1 (hin 110).2
        obtain ⟨f, hf⟩ : ∃ f, [32] ++ itoa x.node = f := ⟨_, rfl⟩
        have hfl : f.length ≤ 22 := by rw [← hf]; simp; omega
        have a1 := fun w => sp_op (b := itoa x.node) (f := f) (by omega) hf w
        have a2 := fun w => str_op (a := o) (b := f) (by omega) w
        have HF := Lib.hid hf
        clear hf hil hfl
        go_wp2_with fail
        go_roundg (nb.size - (k + 1))
        case measure => have := HK.out; omega
        case rel =>
          refine ⟨k + 1, by have := HK.out; omega, by go_num, by rw [HTail.out, ← HF.out]; rfl, ?_, HC5.out⟩
          rw [HFold.out]
          exact CB.chg HX9.out.2 HC6.out
      · go_upto_region 10 with fail
        have pl := fun b w => place_c b 107 (o := 2) rfl w
        have cI := Lib.hid (itoa_any (n := x.n) (hin 107))
        refine abs_region (B := Chg [] W1) (S := fun wz => Chg [] W1 wz ∧ wz.heap[bY]? = some (.cells (cv y) 61 (0, 0))) (by kernel_rfl) ⟨HC.out.drew, HCB.out⟩ ?_
        have hG := good_at [] W1 bY (.cells (cv y) 61 (0, 0))
        refine Abs.tk (i := 0) (d := some 37) (v := ?_) rfl rfl hG ⟨by rfl, fun w9 hw9 => Or.inl ?_⟩ ?_
        rotate_left
        · go_simp
          try with_reducible rfl
        simp only [Act.put, stA, stB, stC]
        refine Abs.tk (i := 1) (d := some 38) (v := ?_) rfl rfl hG ⟨by rfl, fun w9 hw9 => Or.inl ?_⟩ ?_
        rotate_left
        · go_simp
          try with_reducible rfl
        simp only [Act.put, stA, stB, stC]
        refine Abs.tk (i := 2) (d := some 39) (v := ?_) rfl rfl hG ⟨by rfl, fun w9 hw9 => Or.inl ?_⟩ ?_
        rotate_left
        · go_simp
          try with_reducible rfl
        simp only [Act.put, stA, stB, stC]
        refine Abs.tk (i := 3) (d := some 40) (v := _) rfl rfl hG ⟨by rfl, fun w9 hw9 => Or.inr ⟨_, _, ?_, pl bY w9⟩⟩ ?_
        · go_simp
          try with_reducible rfl
        simp only [Act.put, stA, stB, stC]
        refine Abs.tk (i := 4) (d := some 41) (v := ?_) rfl rfl hG ⟨by rfl, fun w9 hw9 => Or.inl ?_⟩ ?_
        rotate_left
        · go_simp
          try with_reducible rfl
        simp only [Act.put, stA, stB, stC]
        refine Abs.tk (i := 5) (d := some 42) (v := ?_) rfl rfl hG ⟨by rfl, fun w9 hw9 => Or.inl ?_⟩ ?_
        rotate_left
        · go_simp
          try with_reducible rfl
        simp only [Act.put, stA, stB, stC]
        refine Abs.tk (i := 6) (d := some 43) (v := ?_) rfl rfl hG ⟨by rfl, fun w9 hw9 => Or.inl ?_⟩ ?_
        rotate_left
        · go_simp
          try with_reducible rfl
        simp only [Act.put, stA, stB, stC]
        refine Abs.tk (i := 7) (d := some 44) (v := _) rfl rfl hG ⟨by rfl, fun w9 hw9 => Or.inr ⟨_, _, ?_, pl bx w9⟩⟩ ?_
        · go_simp
          try with_reducible rfl
        simp only [Act.put, stA, stB, stC]
        refine Abs.tk (i := 8) (d := some 45) (v := ?_) rfl rfl hG ⟨by rfl, fun w9 hw9 => Or.inl ?_⟩ ?_
        rotate_left
        · go_simp
          try with_reducible rfl
        simp only [Act.put, stA, stB, stC]
        refine Abs.tk (i := 9) (d := some 46) (v := ?_) rfl rfl hG ⟨by rfl, fun w9 hw9 => Or.inl ?_⟩ ?_
        rotate_left
        · replace x2 := hw9.cell x2 nmN
          go_simp
          try with_reducible rfl
        simp only [Act.put, stA, stB, stC]
        refine Abs.tk (i := 10) (d := some 47) (v := ?_) rfl rfl hG ⟨by rfl, fun w9 hw9 => Or.inl ?_⟩ ?_
        rotate_left
        · go_simp
          try with_reducible rfl
        simp only [Act.put, stA, stB, stC]
        refine Abs.store4 (i := 11) (b := bY) (ds := cv (cp x y 107)) rfl (by kernel_rfl) (by rfl) (fun w9 => w9.setCell ⟨bY, 2, none⟩ (.int .i64 x.n)) (fun w9 h9 => ⟨?_, has_set h9 2 _, (Chg.refl _ _).setCell (Or.inl (by simp)) _⟩) (fun _ _ h k => Chg.keeps (Or.inr HLe.out) h k) (good_chg [] W1) (fun hG => ?_)
        · have n0 := cell_of_has h9 2
          have z0 := frozen_of_has h9 2
          simp only [cv, glA, glB, glC] at n0
          clear h9
          go_simp
          try with_reducible rfl
        refine Abs.at_put (d := none) rfl ?_
        simp only [Act.put, stA, stB, stC]
        refine Abs.done (by kernel_rfl) (fun wx hx => NoPanic.normal ?_) _
        have HX9 := Lib.hid hx
        clear hx hG
        obtain ⟨y0, y1, y2, y3, y4, y5⟩ := (HX.out.chg HX9.out.1).all
        go_wp2_with fail
        refine (pl bx wx).mono ?_
        rintro e w1 ⟨rfl, hC3⟩
        have HC3 := Lib.hid (HX9.out.1.trans hC3)
        have HC4 := Lib.hid hC3
        clear hC3 y0 y1 y2 y3 y4 y5
        obtain ⟨y0, y1, y2, y3, y4, y5⟩ := (HX.out.chg HC3.out).all
        go_wp2_with fail
        refine (cI.out _ (HG.out.chg (HC1.out.trans HC3.out))).mono ?_
        rintro e w2 ⟨rfl, hC5⟩
        have HC5 := Lib.hid (HC3.out.trans hC5)
        have HC6 := Lib.hid (HC4.out.trans hC5)
        clear hC5 y0 y1 y2 y3 y4 y5
        have hil : (itoa x.n).length ≤ 21 := itoa_length_le x.n (hin 107).1 (hin 107).2
        obtain ⟨f, hf⟩ : ∃ f, [32] ++ itoa x.n = f := ⟨_, rfl⟩
        have hfl : f.length ≤ 22 := by rw [← hf]; simp; omega
        have a1 := fun w => sp_op (b := itoa x.n) (f := f) (by omega) hf w
        have a2 := fun w => str_op (a := o) (b := f) (by omega) w
        have HF := Lib.hid hf
        clear hf hil hfl
        go_wp2_with fail
        go_roundg (nb.size - (k + 1))
        case measure => have := HK.out; omega
        case rel =>
          refine ⟨k + 1, by have := HK.out; omega, by go_num, by rw [HTail.out, ← HF.out]; rfl, ?_, HC5.out⟩
          rw [HFold.out]
          exact CB.chg HX9.out.2 HC6.out
      · go_upto_region 10 with fail
        have pl := fun b w => place_c b 105 (o := 3) rfl w
        have cI := Lib.hid (itoa_any (n := x.id) (hin 105))
        refine abs_region (B := Chg [] W1) (S := fun wz => Chg [] W1 wz ∧ wz.heap[bY]? = some (.cells (cv y) 61 (0, 0))) (by kernel_rfl) ⟨HC.out.drew, HCB.out⟩ ?_
        have hG := good_at [] W1 bY (.cells (cv y) 61 (0, 0))
        refine Abs.tk (i := 0) (d := some 37) (v := ?_) rfl rfl hG ⟨by rfl, fun w9 hw9 => Or.inl ?_⟩ ?_
        rotate_left
        · go_simp
          try with_reducible rfl
        simp only [Act.put, stA, stB, stC]
        refine Abs.tk (i := 1) (d := some 38) (v := ?_) rfl rfl hG ⟨by rfl, fun w9 hw9 => Or.inl ?_⟩ ?_
        rotate_left
        · go_simp
          try with_reducible rfl
        simp only [Act.put, stA, stB, stC]
        refine Abs.tk (i := 2) (d := some 39) (v := ?_) rfl rfl hG ⟨by rfl, fun w9 hw9 => Or.inl ?_⟩ ?_
        rotate_left
        · go_simp
          try with_reducible rfl
        simp only [Act.put, stA, stB, stC]
        refine Abs.tk (i := 3) (d := some 40) (v := _) rfl rfl hG ⟨by rfl, fun w9 hw9 => Or.inr ⟨_, _, ?_, pl bY w9⟩⟩ ?_
        · go_simp
          try with_reducible rfl
        simp only [Act.put, stA, stB, stC]
        refine Abs.tk (i := 4) (d := some 41) (v := ?_) rfl rfl hG ⟨by rfl, fun w9 hw9 => Or.inl ?_⟩ ?_
        rotate_left
        · go_simp
          try with_reducible rfl
        simp only [Act.put, stA, stB, stC]
        refine Abs.tk (i := 5) (d := some 42) (v := ?_) rfl rfl hG ⟨by rfl, fun w9 hw9 => Or.inl ?_⟩ ?_
        rotate_left
        · go_simp
          try with_reducible rfl
        simp only [Act.put, stA, stB, stC]
        refine Abs.tk (i := 6) (d := some 43) (v := ?_) rfl rfl hG ⟨by rfl, fun w9 hw9 => Or.inl ?_⟩ ?_
        rotate_left
        · go_simp
          try with_reducible rfl
        simp only [Act.put, stA, stB, stC]
        refine Abs.tk (i := 7) (d := some 44) (v := _) rfl rfl hG ⟨by rfl, fun w9 hw9 => Or.inr ⟨_, _, ?_, pl bx w9⟩⟩ ?_
        · go_simp
          try with_reducible rfl
        simp only [Act.put, stA, stB, stC]
        refine Abs.tk (i := 8) (d := some 45) (v := ?_) rfl rfl hG ⟨by rfl, fun w9 hw9 => Or.inl ?_⟩ ?_
        rotate_left
        · go_simp
          try with_reducible rfl
        simp only [Act.put, stA, stB, stC]
        refine Abs.tk (i := 9) (d := some 46) (v := ?_) rfl rfl hG ⟨by rfl, fun w9 hw9 => Or.inl ?_⟩ ?_
        rotate_left
        · replace x3 := hw9.cell x3 nmN
          go_simp
          try with_reducible rfl
        simp only [Act.put, stA, stB, stC]
        refine Abs.tk (i := 10) (d := some 47) (v := ?_) rfl rfl hG ⟨by rfl, fun w9 hw9 => Or.inl ?_⟩ ?_
        rotate_left
        · go_simp
          try with_reducible rfl
        simp only [Act.put, stA, stB, stC]
        refine Abs.store4 (i := 11) (b := bY) (ds := cv (cp x y 105)) rfl (by kernel_rfl) (by rfl) (fun w9 => w9.setCell ⟨bY, 3, none⟩ (.int .i64 x.id)) (fun w9 h9 => ⟨?_, has_set h9 3 _, (Chg.refl _ _).setCell (Or.inl (by simp)) _⟩) (fun _ _ h k => Chg.keeps (Or.inr HLe.out) h k) (good_chg [] W1) (fun hG => ?_)
        · have n0 := cell_of_has h9 3
          have z0 := frozen_of_has h9 3
          simp only [cv, glA, glB, glC] at n0
          clear h9
          go_simp
          try with_reducible rfl
        refine Abs.at_put (d := none) rfl ?_
        simp only [Act.put, stA, stB, stC]
        refine Abs.done (by kernel_rfl) (fun wx hx => NoPanic.normal ?_) _
        have HX9 := Lib.hid hx
        clear hx hG
        obtain ⟨y0, y1, y2, y3, y4, y5⟩ := (HX.out.chg HX9.out.1).all
        go_wp2_with fail
        refine (pl bx wx).mono ?_
        rintro e w1 ⟨rfl, hC3⟩
        have HC3 := Lib.hid (HX9.out.1.trans hC3)
        have HC4 := Lib.hid hC3
        clear hC3 y0 y1 y2 y3 y4 y5
        obtain ⟨y0, y1, y2, y3, y4, y5⟩ := (HX.out.chg HC3.out).all
        go_wp2_with fail
        refine (cI.out _ (HG.out.chg (HC1.out.trans HC3.out))).mono ?_
        rintro e w2 ⟨rfl, hC5⟩
        have HC5 := Lib.hid (HC3.out.trans hC5)
        have HC6 := Lib.hid (HC4.out.trans hC5)
        clear hC5 y0 y1 y2 y3 y4 y5
        have hil : (itoa x.id).length ≤ 21 := itoa_length_le x.id (hin 105).1 (hin 105).2
        obtain ⟨f, hf⟩ : ∃ f, [32] ++ itoa x.id = f := ⟨_, rfl⟩
        have hfl : f.length ≤ 22 := by rw [← hf]; simp; omega
        have a1 := fun w => sp_op (b := itoa x.id) (f := f) (by omega) hf w
        have a2 := fun w => str_op (a := o) (b := f) (by omega) w
        have HF := Lib.hid hf
        clear hf hil hfl
        go_wp2_with fail
        go_roundg (nb.size - (k + 1))
        case measure => have := HK.out; omega
        case rel =>
          refine ⟨k + 1, by have := HK.out; omega, by go_num, by rw [HTail.out, ← HF.out]; rfl, ?_, HC5.out⟩
          rw [HFold.out]
          exact CB.chg HX9.out.2 HC6.out
      · go_upto_region 10 with fail
        have pl := fun b w => place_c b 109 (o := 4) rfl w
        have cI := Lib.hid (itoa_any (n := x.mask) (hin 109))
        refine abs_region (B := Chg [] W1) (S := fun wz => Chg [] W1 wz ∧ wz.heap[bY]? = some (.cells (cv y) 61 (0, 0))) (by kernel_rfl) ⟨HC.out.drew, HCB.out⟩ ?_
        have hG := good_at [] W1 bY (.cells (cv y) 61 (0, 0))
        refine Abs.tk (i := 0) (d := some 37) (v := ?_) rfl rfl hG ⟨by rfl, fun w9 hw9 => Or.inl ?_⟩ ?_
        rotate_left
        · go_simp
          try with_reducible rfl
        simp only [Act.put, stA, stB, stC]
        refine Abs.tk (i := 1) (d := some 38) (v := ?_) rfl rfl hG ⟨by rfl, fun w9 hw9 => Or.inl ?_⟩ ?_
        rotate_left
        · go_simp
          try with_reducible rfl
        simp only [Act.put, stA, stB, stC]
        refine Abs.tk (i := 2) (d := some 39) (v := ?_) rfl rfl hG ⟨by rfl, fun w9 hw9 => Or.inl ?_⟩ ?_
        rotate_left
        · go_simp
          try with_reducible rfl
        simp only [Act.put, stA, stB, stC]
        refine Abs.tk (i := 3) (d := some 40) (v := _) rfl rfl hG ⟨by rfl, fun w9 hw9 => Or.inr ⟨_, _, ?_, pl bY w9⟩⟩ ?_
        · go_simp
          try with_reducible rfl
        simp only [Act.put, stA, stB, stC]
        refine Abs.tk (i := 4) (d := some 41) (v := ?_) rfl rfl hG ⟨by rfl, fun w9 hw9 => Or.inl ?_⟩ ?_
        rotate_left
        · go_simp
          try with_reducible rfl
        simp only [Act.put, stA, stB, stC]
        refine Abs.tk (i := 5) (d := some 42) (v := ?_) rfl rfl hG ⟨by rfl, fun w9 hw9 => Or.inl ?_⟩ ?_
        rotate_left
        · go_simp
          try with_reducible rfl
        simp only [Act.put, stA, stB, stC]
        refine Abs.tk (i := 6) (d := some 43) (v := ?_) rfl rfl hG ⟨by rfl, fun w9 hw9 => Or.inl ?_⟩ ?_
        rotate_left
        · go_simp
          try with_reducible rfl
        simp only [Act.put, stA, stB, stC]
        refine Abs.tk (i := 7) (d := some 44) (v := _) rfl rfl hG ⟨by rfl, fun w9 hw9 => Or.inr ⟨_, _, ?_, pl bx w9⟩⟩ ?_
        · go_simp
          try with_reducible rfl
        simp only [Act.put, stA, stB, stC]
        refine Abs.tk (i := 8) (d := some 45) (v := ?_) rfl rfl hG ⟨by rfl, fun w9 hw9 => Or.inl ?_⟩ ?_
        rotate_left
        · go_simp
          try with_reducible rfl
        simp only [Act.put, stA, stB, stC]
        refine Abs.tk (i := 9) (d := some 46) (v := ?_) rfl rfl hG ⟨by rfl, fun w9 hw9 => Or.inl ?_⟩ ?_
        rotate_left
        · replace x4 := hw9.cell x4 nmN
          go_simp
          try with_reducible rfl
        simp only [Act.put, stA, stB, stC]
        refine Abs.tk (i := 10) (d := some 47) (v := ?_) rfl rfl hG ⟨by rfl, fun w9 hw9 => Or.inl ?_⟩ ?_
        rotate_left
        · go_simp
          try with_reducible rfl
        simp only [Act.put, stA, stB, stC]
        refine Abs.store4 (i := 11) (b := bY) (ds := cv (cp x y 109)) rfl (by kernel_rfl) (by rfl) (fun w9 => w9.setCell ⟨bY, 4, none⟩ (.int .i64 x.mask)) (fun w9 h9 => ⟨?_, has_set h9 4 _, (Chg.refl _ _).setCell (Or.inl (by simp)) _⟩) (fun _ _ h k => Chg.keeps (Or.inr HLe.out) h k) (good_chg [] W1) (fun hG => ?_)
        · have n0 := cell_of_has h9 4
          have z0 := frozen_of_has h9 4
          simp only [cv, glA, glB, glC] at n0
          clear h9
          go_simp
          try with_reducible rfl
        refine Abs.at_put (d := none) rfl ?_
        simp only [Act.put, stA, stB, stC]
        refine Abs.done (by kernel_rfl) (fun wx hx => NoPanic.normal ?_) _
        have HX9 := Lib.hid hx
        clear hx hG
        obtain ⟨y0, y1, y2, y3, y4, y5⟩ := (HX.out.chg HX9.out.1).all
        go_wp2_with fail
        refine (pl bx wx).mono ?_
        rintro e w1 ⟨rfl, hC3⟩
        have HC3 := Lib.hid (HX9.out.1.trans hC3)
        have HC4 := Lib.hid hC3
        clear hC3 y0 y1 y2 y3 y4 y5
        obtain ⟨y0, y1, y2, y3, y4, y5⟩ := (HX.out.chg HC3.out).all
        go_wp2_with fail
        refine (cI.out _ (HG.out.chg (HC1.out.trans HC3.out))).mono ?_
        rintro e w2 ⟨rfl, hC5⟩
        have HC5 := Lib.hid (HC3.out.trans hC5)
        have HC6 := Lib.hid (HC4.out.trans hC5)
        clear hC5 y0 y1 y2 y3 y4 y5
        have hil : (itoa x.mask).length ≤ 21 := itoa_length_le x.mask (hin 109).1 (hin 109).2
        obtain ⟨f, hf⟩ : ∃ f, [32] ++ itoa x.mask = f := ⟨_, rfl⟩
        have hfl : f.length ≤ 22 := by rw [← hf]; simp; omega
        have a1 := fun w => sp_op (b := itoa x.mask) (f := f) (by omega) hf w
        have a2 := fun w => str_op (a := o) (b := f) (by omega) w
        have HF := Lib.hid hf
        clear hf hil hfl
        go_wp2_with fail
        go_roundg (nb.size - (k + 1))
        case measure => have := HK.out; omega
        case rel =>
          refine ⟨k + 1, by have := HK.out; omega, by go_num, by rw [HTail.out, ← HF.out]; rfl, ?_, HC5.out⟩
          rw [HFold.out]
          exact CB.chg HX9.out.2 HC6.out
      · have hxm : (⟨x.m.toArray⟩ : ByteArray).data.toList = x.m := rfl
        have cH := Lib.hid (fun w => hexed_any ⟨x.m.toArray⟩ w hm)
        obtain ⟨x0, x1, x2, x3, x4, x5⟩ := (HX.out.chg HC.out).all
        obtain ⟨y0, y1, y2, y3, y4, y5⟩ := HCB.out.all
        have z5 := HCB.out.fz 5
        have hs5 := has_set HCB.out 5 (.string ⟨x.m.toArray⟩)
        obtain ⟨W3, hW3⟩ : ∃ W3, wr.setCell ⟨bY, 5, none⟩ (.string ⟨x.m.toArray⟩) = W3 := ⟨_, rfl⟩
        rw [hW3] at hs5
        have hC3 : Chg [] W1 W3 := by rw [← hW3]; exact HC.out.setCell (Or.inr HLe.out) _
        have HW3 := Lib.hid hW3; have HS5 := Lib.hid hs5; have HC3 := Lib.hid hC3
        clear hW3 hs5 hC3 hxm
        go_upto_region 9 with fail
        try rw [HW3.out]
        clear x0 x1 x2 x3 x4 x5 y0 y1 y2 y3 y4 y5 z5
        obtain ⟨x0, x1, x2, x3, x4, x5⟩ := (HX.out.chg HC3.out).all
        go_wp2_with fail
        refine (cH.out _).mono ?_
        rintro e w2 ⟨rfl, hC5⟩
        have HC5 := Lib.hid (HC3.out.trans hC5)
        have HC6 := Lib.hid hC5
        clear hC5 x0 x1 x2 x3 x4 x5
        have hil : (hexL x.m).length ≤ 2000001 := by have := hexL_len x.m; omega
        obtain ⟨f, hf⟩ : ∃ f, [32] ++ hexL x.m = f := ⟨_, rfl⟩
        have hfl : f.length ≤ 2000002 := by rw [← hf]; simp; omega
        have a1 := fun w => sp_op (b := hexL x.m) (f := f) (by omega) hf w
        have a2 := fun w => str_op (a := o) (b := f) (by omega) w
        have HF := Lib.hid hf
        clear hf hil hfl
        go_wp2_with fail
        go_roundg (nb.size - (k + 1))
        case measure => have := HK.out; omega
        case rel =>
          refine ⟨k + 1, by have := HK.out; omega, by go_num, by rw [HTail.out, ← HF.out]; rfl, ?_, HC5.out⟩
          rw [HFold.out]
          exact CB.chg (x := cp x y 116) HS5.out HC6.out
    · obtain rfl : k = nb.size := by omega
      have e : ns.take nb.size = ns := List.take_of_length_le (by rw [Hnsz.out]; exact Nat.le_refl _)
      rw [e] at hy ho
      have HY2 := Lib.hid (show y = projC x by rw [← hy, projC, Hns.out])
      have HO2 := Lib.hid (show o = lineL x by rw [← ho, lineL, Hws.out, Hns.out])
      clear e hy ho hk
      have HCB := Lib.hid hCB; have HC := Lib.hid hC
      obtain ⟨x0, x1, x2, x3, x4, x5⟩ := (HX.out.chg HC.out).all
      obtain ⟨y0, y1, y2, y3, y4, y5⟩ := HCB.out.all
      clear hCB hC
      by_cases hw0 : ws = []
      · have HL := Lib.hid (show decide (lineOk' x) = false by rw [decide_eq_false_iff_not]; exact fun h => h.1 (by rw [Hws.out, hw0]))
        subst hw0
        go_upto_region 13 with fail
        go_quiet (fail)
        go_wp2_with fail
        go_ret2
        exact ⟨by rw [HO2.out, HL.out]; rfl, (HC1.out.trans HC.out).drewN _⟩
      · have e1 : ws.isEmpty = false := by simpa using hw0
        have eqc := fun w => ch_eql x y w
        unfold cv at eqc
        have HL := Lib.hid (show decide (lineOk' x) = decide (x = y) by
          have h := HY2.out
          rw [h]
          exact decide_eq_decide.2 ⟨fun h => h.2, fun h => ⟨by rw [Hws.out]; exact hw0, h⟩⟩)
        clear hw0
        go_upto_region 13 with fail
        go_quiet (fail)
        go_wp2_with fail
        go_ret2
        exact ⟨by rw [HO2.out, HL.out]; rfl, (HC1.out.trans HC.out).drewN _⟩

end Go.Proofs.YtkcfbacapaonaaaDoor
