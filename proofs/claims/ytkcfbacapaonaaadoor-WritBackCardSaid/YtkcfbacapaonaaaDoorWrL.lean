/- A choice's line: the walk of the document's Line. Printed by linerp.py. -/
import Derived.Test.YtkcfbacapaonaaaDoorWrK
namespace Go.Proofs.YtkcfbacapaonaaaDoor
set_option linter.unusedVariables false
set_option linter.unusedSimpArgs false
open Go.RowKit Go.Lib

theorem op_sp {o f : List UInt8} (h : o.length ≤ 10000000) (hf : o ++ [32] = f) (w : World) : (Op.stringOp .add ⟨o.toArray⟩ ⟨#[32]⟩).run Tryd.prog w = .ok (.string ⟨f.toArray⟩) w := by
  have := str_op (a := o) (b := [32]) (by simp; omega) w
  rw [hf] at this
  exact this
set_option maxRecDepth 100000 in
set_option maxHeartbeats 16000000 in
theorem ref_line (x : Ch) (hx : x.ok) (hm : x.m.length ≤ 1000000) (w : World) (hg : GW w) : Calls Tryd.prog 22 #[.agg (cv x)] w fun e w' =>
    e = .returned (.tuple #[.string ⟨(lineL x).toArray⟩, .bool (decide (lineOk' x))]) ∧ Chg [] w w' := by
  obtain ⟨bx, hbx⟩ : ∃ b, w.heap.size = b := ⟨_, rfl⟩
  obtain ⟨W1, hW1⟩ : ∃ W1, w.alloc (.cells (cv x) 61) = W1 := ⟨_, rfl⟩
  have hX : CB W1 bx x := by rw [← hW1, ← hbx]; exact has_alloc_new _ _
  have hC1 : Chg [] w W1 := by rw [← hW1]; exact (Chg.refl _ _).alloc _
  obtain ⟨x0, x1, x2, x3, x4, x5⟩ := hX.all
  have c1 := Lib.hid (fun w => ref_word x.kind w)
  obtain ⟨ws, hws⟩ : ∃ l, wordL x.kind = l := ⟨_, rfl⟩
  obtain ⟨ns, hns⟩ : ∃ l, namesL x.kind = l := ⟨_, rfl⟩
  rw [hws] at c1
  have hns3 : ns.length ≤ 3 := by rw [← hns]; exact namesL_len _
  have hws7 : ws.length ≤ 7 := by rw [← hws]; exact wordL_len _
  have hset : ∀ c ∈ ns, c = 110 ∨ c = 107 ∨ c = 105 ∨ c = 109 ∨ c = 116 := fun c h => namesL_set (k := x.kind) (by rw [hns]; exact h)
  have HX := Lib.hid hX; have HC1 := Lib.hid hC1; have HW1 := Lib.hid hW1; have Hbx := Lib.hid hbx; have Hns := Lib.hid hns; have Hws := Lib.hid hws; have HSet := Lib.hid hset
  have HG := Lib.hid hg
  by_cases hw0 : ws = []
  · have HR := Lib.hid (show lineL x = [] by
      rcases kind_cases x.kind with h | ⟨h1, h2, _⟩
      · exfalso
        rw [hw0] at hws
        rcases h with h | h | h | h | h | h | h | h | h | h <;> (rw [h] at hws; revert hws; decide)
      · unfold lineL; rw [h1, h2]; rfl)
    have HL := Lib.hid (show decide (lineOk' x) = false by rw [decide_eq_false_iff_not]; exact fun h => h.1 (by rw [hws, hw0]))
    clear hX hC1 hW1 hbx hns hws hset hg
    subst hw0
    go_enter Tryd.func22, Tryd.ntmps22
    go_upto_region 1 with fail
    try rw [show (w.alloc (.cells (cv x) 61)) = W1 from HW1.out]
    try rw [Hbx.out]
    go_wp2_with fail
    refine (c1.out _).mono ?_
    rintro e w1 ⟨rfl, hC⟩
    have HC := Lib.hid hC
    clear hC x0 x1 x2 x3 x4 x5
    go_wp2_with fail
    go_ret2
    exact ⟨by rw [HR.out, HL.out]; rfl, HC1.out.trans HC.out⟩
  · have hk : 1 ≤ x.kind ∧ x.kind ≤ 10 := Classical.byContradiction fun hn => by
      rcases kind_cases x.kind with h | ⟨h, _, _⟩
      · omega
      · exact hw0 (by rw [← hws, h])
    have c2 := Lib.hid (fun w => ref_names hk w)
    rw [hns] at c2
    obtain ⟨nb, hnb⟩ : ∃ nb : ByteArray, ⟨ns.toArray⟩ = nb := ⟨_, rfl⟩
    have hnl : nb.data.toList = ns := by rw [← hnb]
    have hns9 : nb.size = ns.length := by rw [← hnb]; rfl
    rw [hnb] at c2
    have e1 : ws.isEmpty = false := by simpa using hw0
    have e1' : (ws == []) = false := by simpa using hw0
    have Hnl := Lib.hid hnl; have Hnsz := Lib.hid hns9; have HW0 := Lib.hid hw0
    have hnb3 : nb.size ≤ 3 := by omega
    clear hX hC1 hW1 hbx hns hws hset hg hnb hnl hns9 hns3 hw0 hk
    go_enter Tryd.func22, Tryd.ntmps22
    go_upto_region 1 with fail
    try rw [show (w.alloc (.cells (cv x) 61)) = W1 from HW1.out]
    try rw [Hbx.out]
    go_wp2_with fail
    refine (c1.out _).mono ?_
    rintro e w1 ⟨rfl, hC⟩
    replace HX := Lib.hid (HX.out.chg hC); replace HC1 := Lib.hid (HC1.out.trans hC)
    clear hC x0 x1 x2 x3 x4 x5
    obtain ⟨x0, x1, x2, x3, x4, x5⟩ := HX.out.all
    go_wp2_with fail
    refine (c1.out _).mono ?_
    rintro e w2 ⟨rfl, hC⟩
    replace HX := Lib.hid (HX.out.chg hC); replace HC1 := Lib.hid (HC1.out.trans hC)
    clear hC x0 x1 x2 x3 x4 x5
    obtain ⟨x0, x1, x2, x3, x4, x5⟩ := HX.out.all
    go_wp2_with fail
    refine (c2.out _).mono ?_
    rintro e w3 ⟨rfl, hC⟩
    replace HX := Lib.hid (HX.out.chg hC); replace HC1 := Lib.hid (HC1.out.trans hC)
    clear hC x0 x1 x2 x3 x4 x5
    obtain ⟨x0, x1, x2, x3, x4, x5⟩ := HX.out.all
    go_upto_region 6 with fail
    obtain ⟨bY, hbY⟩ : ∃ b, w3.heap.size = b := ⟨_, rfl⟩
    obtain ⟨W2, hW2⟩ : ∃ W2, w3.alloc (.cells #[.int .i64 x.kind, .int .i64 0, .int .i64 0, .int .i64 0, .int .i64 0, .string ⟨#[]⟩] 61) = W2 := ⟨_, rfl⟩
    have hY : CB W2 bY (Ch.of x.kind) := by rw [← hW2, ← hbY]; exact has_alloc_new _ _
    have hC2 : Chg [] w3 W2 := by rw [← hW2]; exact (Chg.refl _ _).alloc _
    have hle : w3.heap.size ≤ bY := Nat.le_of_eq hbY
    try rw [show w3.alloc (.cells #[.int .i64 x.kind, .int .i64 0, .int .i64 0, .int .i64 0, .int .i64 0, .string ByteArray.empty] 61) = W2 from hW2]
    try rw [hW2]
    try rw [hbY]
    have HY := Lib.hid hY; have HC2 := Lib.hid hC2; have HLe := Lib.hid hle
    clear hY hC2 hW2 hbY hle x0 x1 x2 x3 x4 x5
    go_wp2_with fail
    go_loopg [4, 7] nb.size (fun g o i wr => ∃ k : Nat, g + k = nb.size ∧ i = .int .i64 k ∧ o = .string ⟨(ws ++ tailL x (ns.take k)).toArray⟩ ∧ CB wr bY ((ns.take k).foldl (cp x) (Ch.of x.kind)) ∧ Chg [] w3 wr)
    case atStart => exact ⟨0, rfl, rfl, by simp [tailL], HY.out, HC2.out⟩
    case round =>
      obtain ⟨k, hk, rfl, rfl, hCB, hC⟩ := hrel
      obtain ⟨y, hy⟩ : ∃ y, (ns.take k).foldl (cp x) (Ch.of x.kind) = y := ⟨_, rfl⟩
      rw [hy] at hCB
      obtain ⟨o, ho⟩ : ∃ o, ws ++ tailL x (ns.take k) = o := ⟨_, rfl⟩
      rw [ho]
      by_cases hlt : k < nb.size
      · have hol : o.length ≤ 9000000 := by
          rw [← ho, List.length_append]
          have h1 := tailL_len hx hm (ns.take k)
          have h2 : (ns.take k).length ≤ 3 := by rw [List.length_take]; omega
          omega
        obtain ⟨c, hc⟩ : ∃ c, nb[k] = c := ⟨_, rfl⟩
        have hnk : k < ns.length := by rw [← Hnsz.out]; exact hlt
        have hcn : ns[k] = c := by rw [← hc]; have := Hnl.out; subst this; rfl
        have htk : ns.take (k + 1) = ns.take k ++ [c] := by rw [List.take_succ_eq_append_getElem hnk, hcn]
        have hcs := HSet.out c (by rw [← hcn]; exact List.getElem_mem hnk)
        have hfold : (ns.take (k + 1)).foldl (cp x) (Ch.of x.kind) = cp x y c := by rw [htk, List.foldl_append, hy]; rfl
        obtain ⟨f, hf⟩ : ∃ f, o ++ [32] = f := ⟨_, rfl⟩
        have htail : ws ++ tailL x (ns.take (k + 1)) = f ++ fieldL x c := by rw [htk, tailL_snoc, ← List.append_assoc, ho, ← List.append_assoc, hf]
        have hfl : f.length ≤ 9000001 := by rw [← hf]; simp; omega
        have a1 := fun w => op_sp (o := o) (f := f) (by omega) hf w
        have HCB := Lib.hid hCB; have HC := Lib.hid hC; have HK := Lib.hid hk; have HFold := Lib.hid hfold; have HTail := Lib.hid htail
        clear hCB hC hk hy ho hcn htk hfold htail hf
        have hin := fun c => getI_in hx c
        obtain ⟨x0, x1, x2, x3, x4, x5⟩ := (HX.out.chg HC.out).all
        obtain ⟨y0, y1, y2, y3, y4, y5⟩ := HCB.out.all
        rcases hcs with rfl | rfl | rfl | rfl | rfl
        · have cI := Lib.hid (fun w hg => itoa_any (n := x.node) (hin 110) w hg)
          have zz := HCB.out.fz 1
          have hs5 := has_set HCB.out 1 (.int .i64 x.node)
          obtain ⟨W3, hW3⟩ : ∃ W3, wr.setCell ⟨bY, 1, none⟩ (.int .i64 x.node) = W3 := ⟨_, rfl⟩
          rw [hW3] at hs5
          have hC3 : Chg [] w3 W3 := by rw [← hW3]; exact HC.out.setCell (Or.inr HLe.out) _
          have HW3 := Lib.hid hW3; have HS5 := Lib.hid hs5; have HC3 := Lib.hid hC3
          clear hW3 hs5 hC3
          go_upto_region 14 with fail
          try rw [HW3.out]
          clear x0 x1 x2 x3 x4 x5 y0 y1 y2 y3 y4 y5 zz
          obtain ⟨x0, x1, x2, x3, x4, x5⟩ := (HX.out.chg HC3.out).all
          have hil : (itoa x.node).length ≤ 21 := itoa_length_le x.node (hin 110).1 (hin 110).2
          have a2 := fun w => str_op (a := f) (b := itoa x.node) (by omega) w
          clear hil
          go_wp2_with fail
          refine (cI.out _ (HG.out.chg (HC1.out.trans HC3.out))).mono ?_
          rintro e w2 ⟨rfl, hC5⟩
          have HC5 := Lib.hid (HC3.out.trans hC5)
          have HC6 := Lib.hid hC5
          clear hC5 x0 x1 x2 x3 x4 x5
          go_wp2_with fail
          go_roundg (nb.size - (k + 1))
          case measure => have := HK.out; omega
          case rel =>
            refine ⟨k + 1, by have := HK.out; omega, by go_num, by rw [HTail.out]; rfl, ?_, HC5.out⟩
            rw [HFold.out]
            exact CB.chg (x := cp x y 110) HS5.out HC6.out
        · have cI := Lib.hid (fun w hg => itoa_any (n := x.n) (hin 107) w hg)
          have zz := HCB.out.fz 2
          have hs5 := has_set HCB.out 2 (.int .i64 x.n)
          obtain ⟨W3, hW3⟩ : ∃ W3, wr.setCell ⟨bY, 2, none⟩ (.int .i64 x.n) = W3 := ⟨_, rfl⟩
          rw [hW3] at hs5
          have hC3 : Chg [] w3 W3 := by rw [← hW3]; exact HC.out.setCell (Or.inr HLe.out) _
          have HW3 := Lib.hid hW3; have HS5 := Lib.hid hs5; have HC3 := Lib.hid hC3
          clear hW3 hs5 hC3
          go_upto_region 17 with fail
          try rw [HW3.out]
          clear x0 x1 x2 x3 x4 x5 y0 y1 y2 y3 y4 y5 zz
          obtain ⟨x0, x1, x2, x3, x4, x5⟩ := (HX.out.chg HC3.out).all
          have hil : (itoa x.n).length ≤ 21 := itoa_length_le x.n (hin 107).1 (hin 107).2
          have a2 := fun w => str_op (a := f) (b := itoa x.n) (by omega) w
          clear hil
          go_wp2_with fail
          refine (cI.out _ (HG.out.chg (HC1.out.trans HC3.out))).mono ?_
          rintro e w2 ⟨rfl, hC5⟩
          have HC5 := Lib.hid (HC3.out.trans hC5)
          have HC6 := Lib.hid hC5
          clear hC5 x0 x1 x2 x3 x4 x5
          go_wp2_with fail
          go_roundg (nb.size - (k + 1))
          case measure => have := HK.out; omega
          case rel =>
            refine ⟨k + 1, by have := HK.out; omega, by go_num, by rw [HTail.out]; rfl, ?_, HC5.out⟩
            rw [HFold.out]
            exact CB.chg (x := cp x y 107) HS5.out HC6.out
        · have cI := Lib.hid (fun w hg => itoa_any (n := x.id) (hin 105) w hg)
          have zz := HCB.out.fz 3
          have hs5 := has_set HCB.out 3 (.int .i64 x.id)
          obtain ⟨W3, hW3⟩ : ∃ W3, wr.setCell ⟨bY, 3, none⟩ (.int .i64 x.id) = W3 := ⟨_, rfl⟩
          rw [hW3] at hs5
          have hC3 : Chg [] w3 W3 := by rw [← hW3]; exact HC.out.setCell (Or.inr HLe.out) _
          have HW3 := Lib.hid hW3; have HS5 := Lib.hid hs5; have HC3 := Lib.hid hC3
          clear hW3 hs5 hC3
          go_upto_region 20 with fail
          try rw [HW3.out]
          clear x0 x1 x2 x3 x4 x5 y0 y1 y2 y3 y4 y5 zz
          obtain ⟨x0, x1, x2, x3, x4, x5⟩ := (HX.out.chg HC3.out).all
          have hil : (itoa x.id).length ≤ 21 := itoa_length_le x.id (hin 105).1 (hin 105).2
          have a2 := fun w => str_op (a := f) (b := itoa x.id) (by omega) w
          clear hil
          go_wp2_with fail
          refine (cI.out _ (HG.out.chg (HC1.out.trans HC3.out))).mono ?_
          rintro e w2 ⟨rfl, hC5⟩
          have HC5 := Lib.hid (HC3.out.trans hC5)
          have HC6 := Lib.hid hC5
          clear hC5 x0 x1 x2 x3 x4 x5
          go_wp2_with fail
          go_roundg (nb.size - (k + 1))
          case measure => have := HK.out; omega
          case rel =>
            refine ⟨k + 1, by have := HK.out; omega, by go_num, by rw [HTail.out]; rfl, ?_, HC5.out⟩
            rw [HFold.out]
            exact CB.chg (x := cp x y 105) HS5.out HC6.out
        · have cI := Lib.hid (fun w hg => itoa_any (n := x.mask) (hin 109) w hg)
          have zz := HCB.out.fz 4
          have hs5 := has_set HCB.out 4 (.int .i64 x.mask)
          obtain ⟨W3, hW3⟩ : ∃ W3, wr.setCell ⟨bY, 4, none⟩ (.int .i64 x.mask) = W3 := ⟨_, rfl⟩
          rw [hW3] at hs5
          have hC3 : Chg [] w3 W3 := by rw [← hW3]; exact HC.out.setCell (Or.inr HLe.out) _
          have HW3 := Lib.hid hW3; have HS5 := Lib.hid hs5; have HC3 := Lib.hid hC3
          clear hW3 hs5 hC3
          go_upto_region 23 with fail
          try rw [HW3.out]
          clear x0 x1 x2 x3 x4 x5 y0 y1 y2 y3 y4 y5 zz
          obtain ⟨x0, x1, x2, x3, x4, x5⟩ := (HX.out.chg HC3.out).all
          have hil : (itoa x.mask).length ≤ 21 := itoa_length_le x.mask (hin 109).1 (hin 109).2
          have a2 := fun w => str_op (a := f) (b := itoa x.mask) (by omega) w
          clear hil
          go_wp2_with fail
          refine (cI.out _ (HG.out.chg (HC1.out.trans HC3.out))).mono ?_
          rintro e w2 ⟨rfl, hC5⟩
          have HC5 := Lib.hid (HC3.out.trans hC5)
          have HC6 := Lib.hid hC5
          clear hC5 x0 x1 x2 x3 x4 x5
          go_wp2_with fail
          go_roundg (nb.size - (k + 1))
          case measure => have := HK.out; omega
          case rel =>
            refine ⟨k + 1, by have := HK.out; omega, by go_num, by rw [HTail.out]; rfl, ?_, HC5.out⟩
            rw [HFold.out]
            exact CB.chg (x := cp x y 109) HS5.out HC6.out
        · have cI := Lib.hid (fun w (_ : GW w) => ref_hex ⟨x.m.toArray⟩ w hm)
          have zz := HCB.out.fz 5
          have hs5 := has_set HCB.out 5 (.string ⟨x.m.toArray⟩)
          obtain ⟨W3, hW3⟩ : ∃ W3, wr.setCell ⟨bY, 5, none⟩ (.string ⟨x.m.toArray⟩) = W3 := ⟨_, rfl⟩
          rw [hW3] at hs5
          have hC3 : Chg [] w3 W3 := by rw [← hW3]; exact HC.out.setCell (Or.inr HLe.out) _
          have HW3 := Lib.hid hW3; have HS5 := Lib.hid hs5; have HC3 := Lib.hid hC3
          clear hW3 hs5 hC3
          go_upto_region 11 with fail
          try rw [HW3.out]
          clear x0 x1 x2 x3 x4 x5 y0 y1 y2 y3 y4 y5 zz
          obtain ⟨x0, x1, x2, x3, x4, x5⟩ := (HX.out.chg HC3.out).all
          have hil : (hexL x.m).length ≤ 2000001 := by have := hexL_len x.m; omega
          have a2 := fun w => str_op (a := f) (b := hexL x.m) (by omega) w
          clear hil
          go_wp2_with fail
          refine (cI.out _ (HG.out.chg (HC1.out.trans HC3.out))).mono ?_
          rintro e w2 ⟨rfl, hC5⟩
          have HC5 := Lib.hid (HC3.out.trans hC5)
          have HC6 := Lib.hid hC5
          clear hC5 x0 x1 x2 x3 x4 x5
          go_wp2_with fail
          go_roundg (nb.size - (k + 1))
          case measure => have := HK.out; omega
          case rel =>
            refine ⟨k + 1, by have := HK.out; omega, by go_num, by rw [HTail.out]; rfl, ?_, HC5.out⟩
            rw [HFold.out]
            exact CB.chg (x := cp x y 116) HS5.out HC6.out
      · obtain rfl : k = nb.size := by omega
        have e : ns.take nb.size = ns := List.take_of_length_le (by rw [Hnsz.out]; exact Nat.le_refl _)
        rw [e] at hy ho
        have HY2 := Lib.hid (show y = projC x by rw [← hy, projC, Hns.out])
        have HO2 := Lib.hid (show o = lineL x by rw [← ho, lineL, Hws.out, Hns.out])
        clear e hy ho hk
        have HCB := Lib.hid hCB; have HC := Lib.hid hC
        obtain ⟨x0, x1, x2, x3, x4, x5⟩ := (HX.out.chg HC.out).all
        obtain ⟨y0, y1, y2, y3, y4, y5⟩ := HCB.out.all
        clear hCB hC
        have eqc := fun w => ch_eql x y w
        unfold cv at eqc
        have HL := Lib.hid (show decide (lineOk' x) = decide (x = y) by
          have h := HY2.out
          rw [h]
          exact decide_eq_decide.2 ⟨fun h => h.2, fun h => ⟨by rw [Hws.out]; exact HW0.out, h⟩⟩)
        go_upto_region 24 with fail
        go_quiet (fail)
        go_wp2_with fail
        go_ret2
        exact ⟨by rw [HL.out, HO2.out]; rfl, (HC1.out.trans HC.out).drewN _⟩

end Go.Proofs.YtkcfbacapaonaaaDoor
