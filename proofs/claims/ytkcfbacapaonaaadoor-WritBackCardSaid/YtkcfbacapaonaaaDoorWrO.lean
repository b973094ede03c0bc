/- A script's text: the walk of the document's Format. -/
import Derived.Test.YtkcfbacapaonaaaDoorWrN
namespace Go.Proofs.YtkcfbacapaonaaaDoor
set_option linter.unusedVariables false
set_option linter.unusedSimpArgs false
open Go.RowKit Go.Lib

theorem cat_op {a b f : List UInt8} (hl : a.length + b.length ≤ 1000000000000) (hf : a ++ b = f) (w : World) : (Op.stringOp .add ⟨a.toArray⟩ ⟨b.toArray⟩).run Tryd.prog w = .ok (.string ⟨f.toArray⟩) w := by
  rw [← hf]
  exact str_op (by omega) w
theorem lines_len {m : Nat} {xs : List Ch} (h : ∀ x ∈ xs, (lineL x).length ≤ m) : (xs.flatMap fun x => lineL x ++ [10]).length ≤ xs.length * (m + 1) := by
  induction xs with
  | nil => simp
  | cons x r ih =>
    have h1 := h x (by simp)
    have h2 := ih (fun y hy => h y (by simp [hy]))
    have e : (x :: r).length * (m + 1) = r.length * (m + 1) + (m + 1) := by rw [List.length_cons, Nat.succ_mul]
    rw [e, List.flatMap_cons, List.length_append, List.length_append]
    simp only [List.length_singleton] at *
    omega
theorem lines_join (h : List UInt8) (xs : List Ch) : h ++ [10] ++ xs.flatMap (fun x => lineL x ++ [10]) = join (h :: xs.map lineL) [10] ++ [10] := by
  rw [join_cons]
  induction xs generalizing h with
  | nil => simp [joinTail]
  | cons x r ih =>
    have := ih (h ++ [10] ++ lineL x)
    simp only [List.flatMap_cons, List.map_cons, joinTail, List.flatten_cons, List.append_assoc] at this ⊢
    exact this

set_option maxRecDepth 100000 in
set_option maxHeartbeats 16000000 in
theorem ref_format {s : Sc} {A : Option Addr} {cap : Nat} (hs : s.ok) (hm : s.seed.length ≤ 1000000) (hl : ∀ x ∈ s.l, x.m.length ≤ 1000000) (h63 : s.l.length ≤ 9223372036854775807) (w : World) (hg : GW w) (hR : ReadsC w A s.l) :
    Calls Tryd.prog 10 #[.agg (scv s (.slice A s.l.length cap))] w fun e w' => FmtOut (formatS s) e ∧ Chg [] w w' := by
  obtain ⟨b, hb⟩ : ∃ b, w.heap.size = b := ⟨_, rfl⟩
  obtain ⟨W1, hW1⟩ : ∃ W1, w.alloc (.cells (scv s (.slice A s.l.length cap)) 32) = W1 := ⟨_, rfl⟩
  have hX : W1.heap[b]? = some (.cells (scv s (.slice A s.l.length cap)) 32 (0, 0)) := by rw [← hW1, ← hb]; exact has_alloc_new _ _
  have hC1 : Chg [] w W1 := by rw [← hW1]; exact (Chg.refl _ _).alloc _
  obtain ⟨x0, x1, x2, x3, x4⟩ := sc_all hX
  have HX := Lib.hid hX; have HC1 := Lib.hid hC1; have HG := Lib.hid (hg.chg hC1); have HW1 := Lib.hid hW1; have Hb := Lib.hid hb
  have HR := Lib.hid (hR.chg hC1 (by simp)); have HS := Lib.hid hs; have HLen := Lib.hid hl
  clear hX hC1 hg hW1 hb hR hs hl
  by_cases q1 : 500 < s.l.length
  · have f1 : decide ((500 : Int) < s.l.length) = true := decide_eq_true (by omega)
    have HF := Lib.hid (show formatS s = ([], 2) by unfold formatS; rw [if_pos (Or.inl q1)])
    go_enter Tryd.func10, Tryd.ntmps10
    go_upto_region 1 with fail
    try rw [show (w.alloc (.cells (scv s (.slice A s.l.length cap)) 32)) = W1 from HW1.out]
    try rw [Hb.out]
    go_wp2_with fail
    go_ret2
    exact ⟨by rw [HF.out]; rfl, HC1.out⟩
  · have f1 : decide ((500 : Int) < s.l.length) = false := decide_eq_false (by omega)
    by_cases q2 : 60 < s.seed.length
    · have f2 : decide ((60 : Int) < s.seed.length) = true := decide_eq_true (by omega)
      have HF := Lib.hid (show formatS s = ([], 2) by unfold formatS; rw [if_pos (Or.inr q2)])
      go_enter Tryd.func10, Tryd.ntmps10
      go_upto_region 1 with fail
      try rw [show (w.alloc (.cells (scv s (.slice A s.l.length cap)) 32)) = W1 from HW1.out]
      try rw [Hb.out]
      go_wp2_with fail
      go_ret2
      exact ⟨by rw [HF.out]; rfl, HC1.out⟩
    · have f2 : decide ((60 : Int) < s.seed.length) = false := decide_eq_false (by omega)
      by_cases q3 : s.odd < 0 ∨ 1023 < s.odd
      · have HF := Lib.hid (show formatS s = ([], 4) by unfold formatS; rw [if_neg (by omega), if_pos q3])
        by_cases q4 : s.odd < 0
        · have f3 : decide (s.odd < 0) = true := decide_eq_true q4
          go_enter Tryd.func10, Tryd.ntmps10
          go_upto_region 1 with fail
          try rw [show (w.alloc (.cells (scv s (.slice A s.l.length cap)) 32)) = W1 from HW1.out]
          try rw [Hb.out]
          go_wp2_with fail
          go_ret2
          exact ⟨by rw [HF.out]; rfl, HC1.out⟩
        · have f3 : decide (s.odd < 0) = false := decide_eq_false q4
          have f4 : decide (1023 < s.odd) = true := decide_eq_true (by omega)
          go_enter Tryd.func10, Tryd.ntmps10
          go_upto_region 1 with fail
          try rw [show (w.alloc (.cells (scv s (.slice A s.l.length cap)) 32)) = W1 from HW1.out]
          try rw [Hb.out]
          go_wp2_with fail
          go_ret2
          exact ⟨by rw [HF.out]; rfl, HC1.out⟩
      · have f3 : decide (s.odd < 0) = false := decide_eq_false (by omega)
        have f4 : decide (1023 < s.odd) = false := decide_eq_false (by omega)
        have HF := Lib.hid (show formatS s = if ∀ x ∈ s.l, lineOk' x then (join (headL s :: s.l.map lineL) [10] ++ [10], 0) else ([], 4) by unfold formatS; rw [if_neg (by omega), if_neg q3])
        obtain ⟨n1, n2, n3, _⟩ := HS.out
        have c0 := fun w hg => itoa_any n1 w hg
        have c1 := fun w hg => itoa_any n2 w hg
        have c2 := fun w hg => itoa_any n3 w hg
        have c3 := fun w => ref_hex ⟨s.seed.toArray⟩ w hm
        have i1 := itoa_length_le s.n n1.1 n1.2
        have i2 := itoa_length_le s.f n2.1 n2.2
        have i3 := itoa_length_le s.odd n3.1 n3.2
        have i4 := hexL_len s.seed
        have hl500 : s.l.length ≤ 500 := by omega
        have hhd : (headL s).length ≤ 3000000 := headPs_len HS.out hm
        obtain ⟨p1, hp1⟩ : ∃ f, [98, 101, 110, 99, 104, 32] ++ itoa s.n = f := ⟨_, rfl⟩
        obtain ⟨p2, hp2⟩ : ∃ f, p1 ++ [32] = f := ⟨_, rfl⟩
        obtain ⟨p3, hp3⟩ : ∃ f, p2 ++ itoa s.f = f := ⟨_, rfl⟩
        obtain ⟨p4, hp4⟩ : ∃ f, p3 ++ [32] = f := ⟨_, rfl⟩
        obtain ⟨p5, hp5⟩ : ∃ f, p4 ++ itoa s.odd = f := ⟨_, rfl⟩
        obtain ⟨p6, hp6⟩ : ∃ f, p5 ++ [32] = f := ⟨_, rfl⟩
        obtain ⟨p7, hp7⟩ : ∃ f, p6 ++ hexL s.seed = f := ⟨_, rfl⟩
        obtain ⟨p8, hp8⟩ : ∃ f, p7 ++ [10] = f := ⟨_, rfl⟩
        have l1 : p1.length ≤ 27 := by rw [← hp1]; simp; omega
        have l2 : p2.length ≤ 28 := by rw [← hp2]; simp; omega
        have l3 : p3.length ≤ 49 := by rw [← hp3]; simp; omega
        have l4 : p4.length ≤ 50 := by rw [← hp4]; simp; omega
        have l5 : p5.length ≤ 71 := by rw [← hp5]; simp; omega
        have l6 : p6.length ≤ 72 := by rw [← hp6]; simp; omega
        have l7 : p7.length ≤ 2000073 := by rw [← hp7]; simp; omega
        have a1 := fun w => cat_op (by simp; omega) hp1 w
        have a2 := fun w => cat_op (by simp; omega) hp2 w
        have a3 := fun w => cat_op (by omega) hp3 w
        have a4 := fun w => cat_op (by simp; omega) hp4 w
        have a5 := fun w => cat_op (by omega) hp5 w
        have a6 := fun w => cat_op (by simp; omega) hp6 w
        have a7 := fun w => cat_op (by omega) hp7 w
        have a8 := fun w => cat_op (by simp; omega) hp8 w
        have hp : p8 = headL s ++ [10] := by
          rw [← hp8, ← hp7, ← hp6, ← hp5, ← hp4, ← hp3, ← hp2, ← hp1, headL, headPs, join_cons, joinTail]
          simp [benchW]
        have HP := Lib.hid hp
        clear hp hp1 hp2 hp3 hp4 hp5 hp6 hp7 hp8 l1 l2 l3 l4 l5 l6 l7 i1 i2 i3 i4 q3
        go_enter Tryd.func10, Tryd.ntmps10
        go_upto_region 1 with fail
        try rw [show (w.alloc (.cells (scv s (.slice A s.l.length cap)) 32)) = W1 from HW1.out]
        try rw [Hb.out]
        go_upto_region 5 with fail
        refine abs_region (B := Chg [] W1) (S := fun wz => Chg [] W1 wz) (by kernel_rfl) ((Chg.refl _ _).drew) ?_
        have hG := good_chg [] W1
        refine Abs.tk (i := 0) (d := some 27) (v := ?_) rfl rfl hG ⟨by rfl, fun w9 hw9 => Or.inl ?_⟩ ?_
        rotate_left
        · go_simp
          try with_reducible rfl
        simp only [Act.put, stA, stB, stC]
        refine Abs.tk (i := 1) (d := some 28) (v := ?_) rfl rfl hG ⟨by rfl, fun w9 hw9 => Or.inl ?_⟩ ?_
        rotate_left
        · replace x0 := hw9.cell x0 nmN
          go_simp
          try with_reducible rfl
        simp only [Act.put, stA, stB, stC]
        refine Abs.tk (i := 2) (d := some 29) (v := _) rfl rfl hG ⟨by rfl, fun w9 hw9 => Or.inr ⟨_, _, ?_, c0 w9 (HG.out.chg hw9)⟩⟩ ?_
        · go_simp
          try with_reducible rfl
        simp only [Act.put, stA, stB, stC]
        refine Abs.tk (i := 3) (d := some 30) (v := ?_) rfl rfl hG ⟨by rfl, fun w9 hw9 => Or.inl ?_⟩ ?_
        rotate_left
        · go_simp
          try with_reducible rfl
        simp only [Act.put, stA, stB, stC]
        refine Abs.tk (i := 4) (d := some 31) (v := ?_) rfl rfl hG ⟨by rfl, fun w9 hw9 => Or.inl ?_⟩ ?_
        rotate_left
        · go_simp
          try with_reducible rfl
        simp only [Act.put, stA, stB, stC]
        refine Abs.tk (i := 5) (d := some 32) (v := ?_) rfl rfl hG ⟨by rfl, fun w9 hw9 => Or.inl ?_⟩ ?_
        rotate_left
        · go_simp
          try with_reducible rfl
        simp only [Act.put, stA, stB, stC]
        refine Abs.tk (i := 6) (d := some 33) (v := ?_) rfl rfl hG ⟨by rfl, fun w9 hw9 => Or.inl ?_⟩ ?_
        rotate_left
        · replace x1 := hw9.cell x1 nmN
          go_simp
          try with_reducible rfl
        simp only [Act.put, stA, stB, stC]
        refine Abs.tk (i := 7) (d := some 34) (v := _) rfl rfl hG ⟨by rfl, fun w9 hw9 => Or.inr ⟨_, _, ?_, c1 w9 (HG.out.chg hw9)⟩⟩ ?_
        · go_simp
          try with_reducible rfl
        simp only [Act.put, stA, stB, stC]
        refine Abs.tk (i := 8) (d := some 35) (v := ?_) rfl rfl hG ⟨by rfl, fun w9 hw9 => Or.inl ?_⟩ ?_
        rotate_left
        · go_simp
          try with_reducible rfl
        simp only [Act.put, stA, stB, stC]
        refine Abs.tk (i := 9) (d := some 36) (v := ?_) rfl rfl hG ⟨by rfl, fun w9 hw9 => Or.inl ?_⟩ ?_
        rotate_left
        · go_simp
          try with_reducible rfl
        simp only [Act.put, stA, stB, stC]
        refine Abs.tk (i := 10) (d := some 37) (v := ?_) rfl rfl hG ⟨by rfl, fun w9 hw9 => Or.inl ?_⟩ ?_
        rotate_left
        · go_simp
          try with_reducible rfl
        simp only [Act.put, stA, stB, stC]
        refine Abs.tk (i := 11) (d := some 38) (v := ?_) rfl rfl hG ⟨by rfl, fun w9 hw9 => Or.inl ?_⟩ ?_
        rotate_left
        · replace x2 := hw9.cell x2 nmN
          go_simp
          try with_reducible rfl
        simp only [Act.put, stA, stB, stC]
        refine Abs.tk (i := 12) (d := some 39) (v := _) rfl rfl hG ⟨by rfl, fun w9 hw9 => Or.inr ⟨_, _, ?_, c2 w9 (HG.out.chg hw9)⟩⟩ ?_
        · go_simp
          try with_reducible rfl
        simp only [Act.put, stA, stB, stC]
        refine Abs.tk (i := 13) (d := some 40) (v := ?_) rfl rfl hG ⟨by rfl, fun w9 hw9 => Or.inl ?_⟩ ?_
        rotate_left
        · go_simp
          try with_reducible rfl
        simp only [Act.put, stA, stB, stC]
        refine Abs.tk (i := 14) (d := some 41) (v := ?_) rfl rfl hG ⟨by rfl, fun w9 hw9 => Or.inl ?_⟩ ?_
        rotate_left
        · go_simp
          try with_reducible rfl
        simp only [Act.put, stA, stB, stC]
        refine Abs.tk (i := 15) (d := some 42) (v := ?_) rfl rfl hG ⟨by rfl, fun w9 hw9 => Or.inl ?_⟩ ?_
        rotate_left
        · go_simp
          try with_reducible rfl
        simp only [Act.put, stA, stB, stC]
        refine Abs.tk (i := 16) (d := some 43) (v := ?_) rfl rfl hG ⟨by rfl, fun w9 hw9 => Or.inl ?_⟩ ?_
        rotate_left
        · replace x3 := hw9.cell x3 nmN
          go_simp
          try with_reducible rfl
        simp only [Act.put, stA, stB, stC]
        refine Abs.tk (i := 17) (d := some 44) (v := _) rfl rfl hG ⟨by rfl, fun w9 hw9 => Or.inr ⟨_, _, ?_, c3 w9⟩⟩ ?_
        · go_simp
          try with_reducible rfl
        simp only [Act.put, stA, stB, stC]
        refine Abs.tk (i := 18) (d := some 45) (v := ?_) rfl rfl hG ⟨by rfl, fun w9 hw9 => Or.inl ?_⟩ ?_
        rotate_left
        · go_simp
          try with_reducible rfl
        simp only [Act.put, stA, stB, stC]
        refine Abs.tk (i := 19) (d := some 46) (v := ?_) rfl rfl hG ⟨by rfl, fun w9 hw9 => Or.inl ?_⟩ ?_
        rotate_left
        · go_simp
          try with_reducible rfl
        simp only [Act.put, stA, stB, stC]
        refine Abs.tk (i := 20) (d := some 4) (v := ?_) rfl rfl hG ⟨by rfl, fun w9 hw9 => Or.inl ?_⟩ ?_
        rotate_left
        · go_simp
          try with_reducible rfl
        simp only [Act.put, stA, stB, stC]
        refine Abs.done (by kernel_rfl) (fun W2 hx => NoPanic.normal ?_) _
        have HA := Lib.hid hx
        clear hx hG x0 x1 x2 x3 x4 a1 a2 a3 a4 a5 a6 a7 a8 c0 c1 c2 c3
        obtain ⟨x0, x1, x2, x3, x4⟩ := sc_all (HA.out.has HX.out nmN)
        go_wp2_with fail
        clear x0 x1 x2 x3 x4
        go_loopg [4, 6, 7, 8, 50] s.l.length (fun g o _ _ _ i wr => ∃ k : Nat, g + k = s.l.length ∧ i = .int .i64 k ∧ o = .string ⟨(headL s ++ [10] ++ (s.l.take k).flatMap fun x => lineL x ++ [10]).toArray⟩ ∧ (∀ x ∈ s.l.take k, lineOk' x) ∧ Chg [] W1 wr)
        case atStart => exact ⟨0, rfl, rfl, by rw [HP.out]; simp, by simp, HA.out⟩
        case round =>
          obtain ⟨k, hk, rfl, rfl, hok, hC⟩ := hrel
          obtain ⟨o, ho⟩ : ∃ o, headL s ++ [10] ++ (s.l.take k).flatMap (fun x => lineL x ++ [10]) = o := ⟨_, rfl⟩
          rw [ho]
          by_cases hlt : k < s.l.length
          · obtain ⟨bl, off, rfl, hbl, hcell⟩ := (HR.out.chg hC (by simp)) (by omega)
            obtain ⟨x, hx⟩ : ∃ x, s.l[k] = x := ⟨_, rfl⟩
            have hxk : s.l[k]? = some x := by rw [List.getElem?_eq_getElem hlt, hx]
            have hxm : x ∈ s.l := by rw [← hx]; exact List.getElem_mem hlt
            have htk : s.l.take (k + 1) = s.l.take k ++ [x] := by rw [List.take_succ_eq_append_getElem hlt, hx]
            have k0 : wr.cell? ⟨bl, off + k * 6, none⟩ = some (.int .i64 x.kind) := hcell k x hxk 0 (by decide)
            have k1 : wr.cell? ⟨bl, off + k * 6 + 1, none⟩ = some (.int .i64 x.node) := hcell k x hxk 1 (by decide)
            have k2 : wr.cell? ⟨bl, off + k * 6 + 2, none⟩ = some (.int .i64 x.n) := hcell k x hxk 2 (by decide)
            have k3 : wr.cell? ⟨bl, off + k * 6 + 3, none⟩ = some (.int .i64 x.id) := hcell k x hxk 3 (by decide)
            have k4 : wr.cell? ⟨bl, off + k * 6 + 4, none⟩ = some (.int .i64 x.mask) := hcell k x hxk 4 (by decide)
            have k5 : wr.cell? ⟨bl, off + k * 6 + 5, none⟩ = some (.string ⟨x.m.toArray⟩) := hcell k x hxk 5 (by decide)
            have hol : o.length ≤ 3000001 + 500 * 6000014 := by
              rw [← ho]
              have h1 := lines_len (m := 6000013) (xs := s.l.take k) (fun y hy => line_len (HS.out.2.2.2 y (List.mem_of_mem_take hy)) (HLen.out y (List.mem_of_mem_take hy)))
              have h2 : (s.l.take k).length ≤ 500 := by rw [List.length_take]; omega
              have h3 : (s.l.take k).length * (6000013 + 1) ≤ 500 * (6000013 + 1) := Nat.mul_le_mul_right _ h2
              simp only [List.length_append, List.length_singleton] at *
              omega
            have hll := line_len (HS.out.2.2.2 x hxm) (HLen.out x hxm)
            obtain ⟨o2, ho2⟩ : ∃ f, o ++ lineL x = f := ⟨_, rfl⟩
            obtain ⟨o3, ho3⟩ : ∃ f, o2 ++ [10] = f := ⟨_, rfl⟩
            have l2 : o2.length ≤ 3100000000 := by rw [← ho2]; simp; omega
            have a1 := fun w => cat_op (by omega) ho2 w
            have a2 := fun w => cat_op (by simp; omega) ho3 w
            have htl : headL s ++ [10] ++ (s.l.take (k + 1)).flatMap (fun x => lineL x ++ [10]) = o3 := by
              rw [htk, List.flatMap_append, ← List.append_assoc, ho, ← ho3, ← ho2]
              simp
            have HTL := Lib.hid htl
            have HT := Lib.hid htk; have HC := Lib.hid hC; have HOk := Lib.hid hok; have HK := Lib.hid hk; have HXM := Lib.hid hxm
            obtain ⟨b3, hb3⟩ : ∃ b, wr.heap.size = b := ⟨_, rfl⟩
            obtain ⟨W3, hW3⟩ : ∃ W3, wr.alloc (.cells (cv x) 61) = W3 := ⟨_, rfl⟩
            have hB3 : CB W3 b3 x := by rw [← hW3, ← hb3]; exact has_alloc_new _ _
            have hC3 : Chg [] wr W3 := by rw [← hW3]; exact (Chg.refl _ _).alloc _
            have cl0 := ref_line x (HS.out.2.2.2 x hxm) (HLen.out x hxm)
            simp only [cv] at cl0
            have cl := Lib.hid cl0
            clear cl0
            have HB3 := Lib.hid hB3; have HC3 := Lib.hid hC3; have HW3 := Lib.hid hW3; have Hb3 := Lib.hid hb3
            clear hcell hx hxk hxm htk hC hok hk hB3 hC3 hW3 hb3 hol hll ho2 ho3 l2 htl ho
            go_upto_region 9 with fail
            try rw [show wr.alloc (.cells #[.int .i64 x.kind, .int .i64 x.node, .int .i64 x.n, .int .i64 x.id, .int .i64 x.mask, .string ⟨x.m.toArray⟩] 61) = W3 from HW3.out]
            try rw [Hb3.out]
            clear k0 k1 k2 k3 k4 k5
            obtain ⟨k0, k1, k2, k3, k4, k5⟩ := HB3.out.all
            go_wp2_with fail
            refine (cl.out _ (HG.out.chg (HC.out.trans HC3.out))).mono ?_
            rintro e w4 ⟨rfl, hC4⟩
            have HC4 := Lib.hid ((HC.out.trans HC3.out).trans hC4)
            clear hC4 k0 k1 k2 k3 k4 k5
            by_cases hlo : lineOk' x
            · rw [decide_eq_true hlo]
              have HLo := Lib.hid hlo
              clear hlo
              go_wp2_with fail
              go_roundg (s.l.length - (k + 1))
              case measure => have := HK.out; omega
              case rel =>
                refine ⟨k + 1, by have := HK.out; omega, by go_num, by rw [HTL.out], ?_, HC4.out⟩
                rw [HT.out]
                intro y hy
                rcases List.mem_append.1 hy with hy | hy
                · exact HOk.out y hy
                · rw [List.mem_singleton.1 hy]; exact HLo.out
            · rw [decide_eq_false hlo]
              have HF2 := Lib.hid (show formatS s = ([], 4) by rw [HF.out, if_neg (fun h => hlo (h x HXM.out))])
              clear hlo
              go_wp2_with fail
              go_ret2
              exact ⟨by rw [HF2.out]; rfl, HC1.out.trans HC4.out⟩
          · obtain rfl : k = s.l.length := by omega
            have e : s.l.take s.l.length = s.l := List.take_of_length_le (Nat.le_refl _)
            rw [e] at hok ho
            have HF2 := Lib.hid (show formatS s = (join (headL s :: s.l.map lineL) [10] ++ [10], 0) by rw [HF.out, if_pos hok])
            have HO := Lib.hid (show o = join (headL s :: s.l.map lineL) [10] ++ [10] by rw [← ho, lines_join])
            have HC := Lib.hid hC
            clear hok hC hk e ho
            go_wp2_with fail
            go_ret2
            exact ⟨by rw [HF2.out, ← HO.out]; rfl, HC1.out.trans HC.out⟩

end Go.Proofs.YtkcfbacapaonaaaDoor
