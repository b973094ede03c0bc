/- The choice of a line: the walk of writ.choice. Printed by choicep.py. -/
import Derived.Test.YtkcfbacapaonaaaDoorWrO
namespace Go.Proofs.YtkcfbacapaonaaaDoor
set_option linter.unusedVariables false
set_option linter.unusedSimpArgs false
open Go.RowKit Go.Lib

theorem parts_len {c : UInt8} : ∀ {s p : List UInt8}, p ∈ parts c s → p.length ≤ s.length
  | [], p, h => by simp [parts] at h; simp [h]
  | x :: r, p, h => by
    rw [parts] at h
    have ih := @parts_len c r
    revert h ih
    cases parts c r with
    | nil =>
      intro h _
      split at h
      · simp at h; simp [h]
      · simp at h; simp [h]
    | cons q t =>
      intro h ih
      split at h
      · rcases List.mem_cons.1 h with h | h
        · simp [h]
        · have := ih h
          simp; omega
      · rcases List.mem_cons.1 h with h | h
        · have := ih (p := q) (by simp)
          rw [h]; simp; omega
        · have := ih (p := p) (by simp [h])
          simp; omega
theorem parts_count {c : UInt8} : ∀ s : List UInt8, (parts c s).length ≤ s.length + 1
  | [] => by simp [parts]
  | x :: r => by
    have ih := parts_count (c := c) r
    rw [parts]
    split
    · simp; omega
    · revert ih
      cases parts c r with
      | nil => intro _; simp
      | cons q t => intro ih; simp at ih ⊢; omega
def put6 (w : World) (b : Nat) (y : Ch) : World := (((((w.setCell ⟨b, 0, none⟩ (.int .i64 y.kind)).setCell ⟨b, 1, none⟩ (.int .i64 y.node)).setCell ⟨b, 2, none⟩ (.int .i64 y.n)).setCell ⟨b, 3, none⟩ (.int .i64 y.id)).setCell ⟨b, 4, none⟩ (.int .i64 y.mask)).setCell ⟨b, 5, none⟩ (.string ⟨y.m.toArray⟩)
theorem put6_has {w : World} {b : Nat} {x : Ch} (h : CB w b x) (y : Ch) : CB (put6 w b y) b y :=
  has_set (has_set (has_set (has_set (has_set (has_set h 0 _) 1 _) 2 _) 3 _) 4 _) 5 _
theorem Chg.put6 {S : List Nat} {a w : World} (h : Chg S a w) {b : Nat} (hb : b ∈ S ∨ a.heap.size ≤ b) (y : Ch) : Chg S a (put6 w b y) :=
  (((((h.setCell hb _).setCell hb _).setCell hb _).setCell hb _).setCell hb _).setCell hb _
def Ch.zero : Ch := ⟨0, 0, 0, 0, 0, []⟩
def ChOut (o : Option Ch) (e : Ending) : Prop := match o with | some x => e = .returned (.tuple #[.agg (cv x), .bool true]) | none => ∃ y, e = .returned (.tuple #[.agg (cv y), .bool false])
/-- A line's words are those of a kind. -/
def kindFits (t : List UInt8) (k : Int) : Prop := wordL k = (parts 32 t).headD [] ∧ (parts 32 t).length = 1 + (namesL k).length
theorem choice_none {t : List UInt8} (h : ∀ k, 1 ≤ k → k ≤ 10 → ¬ kindFits t k) : choiceS t = none := by
  cases e : choiceS t with
  | none => rfl
  | some x =>
    obtain ⟨k, h1, h2, h3, h4, _⟩ := choice_some e
    exact absurd ⟨h3, h4⟩ (h k h1 h2)
theorem fill_snoc (y : Ch) : ∀ (cs : List UInt8) (ws : List (List UInt8)) (c : UInt8) (v : List UInt8), cs.length = ws.length → fillC y (cs ++ [c]) (ws ++ [v]) = (if c = 116 then { fillC y cs ws with m := unhexL v } else setI (fillC y cs ws) c (numV v))
  | [], [], c, v, _ => rfl
  | [], _ :: _, c, v, h => by simp at h
  | _ :: _, [], c, v, h => by simp at h
  | a :: cs, b :: ws, c, v, h => by
    rw [List.cons_append, List.cons_append, fillC, fillC]
    exact fill_snoc _ cs ws c v (by simpa using h)
theorem fill_m {n : Nat} : ∀ {cs : List UInt8} {ws : List (List UInt8)} {y : Ch}, y.m.length ≤ n → (∀ v ∈ ws, v.length ≤ n) → (fillC y cs ws).m.length ≤ n
  | [], ws, y, h, _ => by cases ws <;> exact h
  | c :: cs, [], y, h, _ => h
  | c :: cs, w :: ws, y, h, hw => by
    rw [fillC]
    refine fill_m ?_ (fun v hv => hw v (by simp [hv]))
    split
    · have := unhexL_len w
      have := hw w (by simp)
      show (unhexL w).length ≤ n
      omega
    · unfold setI
      repeat' split
      all_goals exact h

set_option maxRecDepth 100000 in
set_option maxHeartbeats 16000000 in
theorem choice_any (s : ByteArray) (hs : s.size ≤ 1000000) (w : World) (hg : GW w) : Calls Tryd.prog 26 #[.string s] w fun e w' => ChOut (choiceS s.data.toList) e ∧ Chg [] w w' := by
  have hsz : s.data.toList.length = s.size := rfl
  obtain ⟨ws, hws⟩ : ∃ l, parts 32 s.data.toList = l := ⟨_, rfl⟩
  have hne : ws ≠ [] := by rw [← hws]; exact parts_ne _ _
  obtain ⟨v0, vs, hvs⟩ : ∃ v vs, ws = v :: vs := by
    cases ws with
    | nil => exact absurd rfl hne
    | cons v vs => exact ⟨v, vs, rfl⟩
  have hlen : ∀ p ∈ ws, p.length ≤ 1000000 := fun p hp => by
    have := parts_len (c := 32) (s := s.data.toList) (p := p) (by rw [hws]; exact hp)
    omega
  have hwl : ws.length ≤ 1000001 := by
    have := parts_count (c := 32) s.data.toList
    rw [hws, hsz] at this
    omega
  obtain ⟨b, hb⟩ : ∃ b, w.heap.size = b := ⟨_, rfl⟩
  obtain ⟨W1, hW1⟩ : ∃ W1, w.alloc (.cells #[.int .i64 0, .int .i64 0, .int .i64 0, .int .i64 0, .int .i64 0, .string ⟨#[]⟩] 61) = W1 := ⟨_, rfl⟩
  have hX : CB W1 b Ch.zero := by rw [← hW1, ← hb]; exact has_alloc_new _ _
  have hC1 : Chg [] w W1 := by rw [← hW1]; exact (Chg.refl _ _).alloc _
  have c1 := split_any s 32 (by omega) W1 (hg.chg hC1)
  rw [hws] at c1
  have HX := Lib.hid hX; have HC1 := Lib.hid hC1; have HG := Lib.hid (hg.chg hC1); have HW1 := Lib.hid hW1; have Hb := Lib.hid hb; have C1 := Lib.hid c1
  have HWS := Lib.hid hws; have HVS := Lib.hid hvs; have HLen := Lib.hid hlen; have HSZ := Lib.hid hsz
  have hwl0 : 0 < ws.length := by rw [hvs]; simp
  clear hX hC1 hg hW1 hb c1 hws hvs hlen hsz hne
  go_enter Tryd.func26, Tryd.ntmps26
  go_upto_region 1 with fail
  try rw [show (w.alloc (.cells #[.int .i64 0, .int .i64 0, .int .i64 0, .int .i64 0, .int .i64 0, .string ByteArray.empty] 61)) = W1 from HW1.out]
  try rw [HW1.out]
  try rw [Hb.out]
  go_wp2_with fail
  refine C1.out.mono ?_
  rintro e w1 ⟨bw, rfl, hRS, hC⟩
  have HRS := Lib.hid hRS; have HC := Lib.hid hC; have HX1 := Lib.hid (HX.out.chg hC)
  clear hRS hC
  go_wp2_with fail
  go_loopg [5, 6, 7, 8, 9, 10, 11] 10 (fun g i _ _ _ _ _ _ wr => ∃ k : Nat, g + k = 11 ∧ 1 ≤ k ∧ i = .int .i64 k ∧ (∀ j : Int, 1 ≤ j → j < k → ¬ kindFits s.data.toList j) ∧ w1 = wr)
  case atStart => exact ⟨1, rfl, Nat.le_refl _, rfl, fun j h1 h2 => by omega, rfl⟩
  case round =>
    obtain ⟨k, hk, hk1, rfl, hno, rfl⟩ := hrel
    by_cases hlt : k ≤ 10
    · have c2 := Lib.hid (fun w => shape_any (k : Int) w)
      obtain ⟨wk, hwk⟩ : ∃ l, wordL (k : Int) = l := ⟨_, rfl⟩
      obtain ⟨ns, hns⟩ : ∃ l, namesL (k : Int) = l := ⟨_, rfl⟩
      obtain ⟨nb, hnb⟩ : ∃ nb : ByteArray, ⟨ns.toArray⟩ = nb := ⟨_, rfl⟩
      rw [hwk, hns, hnb] at c2
      have hns9 : nb.size = ns.length := by rw [← hnb]; rfl
      have hnl : nb.data.toList = ns := by rw [← hnb]
      have hns3 : nb.size ≤ 3 := by rw [hns9, ← hns]; exact namesL_len _
      have q0 : w1.cell? ⟨bw, 0, none⟩ = some (.string ⟨v0.toArray⟩) := HRS.out.2 0 v0 (by rw [HVS.out]; rfl)
      have HNo := Lib.hid hno; have HK := Lib.hid hk; have Hwk := Lib.hid hwk; have Hns := Lib.hid hns; have Hnsz := Lib.hid hns9; have Hnl := Lib.hid hnl
      clear hno hk hwk hns hns9 hnl hnb
      by_cases hfit : kindFits s.data.toList k
      · have HFit := Lib.hid hfit
        have f1 : (wk != v0) = false := by
          have h := hfit.1
          rw [HWS.out, HVS.out, Hwk.out] at h
          simp only [List.headD_cons] at h
          rw [h]; simp
        have f1b : (wk == v0) = true := by simpa using f1
        have hln : ws.length = 1 + nb.size := by
          have h := hfit.2
          rw [HWS.out, Hns.out] at h
          rw [h, Hnsz.out]
        have f2 : ((ws.length : Int) != 1 + (nb.size : Int)) = false := by rw [bne_eq_false_iff_eq]; omega
        have HLn := Lib.hid hln
        clear hfit hln
        go_wp2_with fail
        refine (c2.out _).mono ?_
        rintro e w2 ⟨rfl, rfl⟩
        obtain ⟨bX, hbX⟩ : ∃ b, w1.heap.size = b := ⟨_, rfl⟩
        obtain ⟨W2, hW2⟩ : ∃ W2, w1.alloc (.cells #[.int .i64 (k : Int), .int .i64 0, .int .i64 0, .int .i64 0, .int .i64 0, .string ⟨#[]⟩] 61) = W2 := ⟨_, rfl⟩
        have hY : CB W2 bX (Ch.of k) := by rw [← hW2, ← hbX]; exact has_alloc_new _ _
        have hC2 : Chg [] w1 W2 := by rw [← hW2]; exact (Chg.refl _ _).alloc _
        have hle : w1.heap.size ≤ bX := Nat.le_of_eq hbX
        have HW2 := Lib.hid hW2; have HbX := Lib.hid hbX
        have HY := Lib.hid hY; have HC2 := Lib.hid hC2; have HLe := Lib.hid hle; have HG1 := Lib.hid (HG.out.chg HC.out)
        clear hY hC2 hW2 hbX hle
        go_upto_region 8 with fail
        try rw [show w1.alloc (.cells #[.int .i64 (k : Int), .int .i64 0, .int .i64 0, .int .i64 0, .int .i64 0, .string ByteArray.empty] 61) = W2 from HW2.out]
        try rw [HW2.out]
        try rw [HbX.out]
        clear q0
        go_wp2_with fail
        go_loopg [9, 40] nb.size (fun g _ i wr => ∃ j : Nat, g + j = nb.size ∧ i = .int .i64 j ∧ CB wr bX (fillC (Ch.of k) (ns.take j) (vs.take j)) ∧ Chg [] w1 wr)
        case atStart => exact ⟨0, rfl, rfl, HY.out, HC2.out⟩
        case round =>
         obtain ⟨j, hj, rfl, hCB, hC3⟩ := hrel
         obtain ⟨y, hy⟩ : ∃ y, fillC (Ch.of k) (ns.take j) (vs.take j) = y := ⟨_, rfl⟩
         rw [hy] at hCB
         by_cases hltj : j < nb.size
         · obtain ⟨c, hc⟩ : ∃ c, nb[j] = c := ⟨_, rfl⟩
           have hnj : j < ns.length := by rw [← Hnsz.out]; exact hltj
           have hcn : ns[j] = c := by rw [← hc]; have := Hnl.out; subst this; rfl
           have htk : ns.take (j + 1) = ns.take j ++ [c] := by rw [List.take_succ_eq_append_getElem hnj, hcn]
           have hvl' : vs.length = nb.size := by have := HLn.out; rw [HVS.out, List.length_cons] at this; omega
           obtain ⟨v, hv⟩ : ∃ v, vs[j] = v := ⟨_, rfl⟩
           have htv : vs.take (j + 1) = vs.take j ++ [v] := by rw [List.take_succ_eq_append_getElem (by omega), hv]
           have hcs := namesL_set (k := (k : Int)) (c := c) (by rw [Hns.out, ← hcn]; exact List.getElem_mem hnj)
           have hvl : v.length ≤ 1000000 := HLen.out v (by rw [HVS.out, ← hv]; exact List.mem_cons_of_mem _ (List.getElem_mem _))
           have hfill : fillC (Ch.of k) (ns.take (j + 1)) (vs.take (j + 1)) = (if c = 116 then { y with m := unhexL v } else setI y c (numV v)) := by
             rw [htk, htv, fill_snoc _ _ _ _ _ (by rw [List.length_take, List.length_take]; omega), hy]
           have q : w1.cell? ⟨bw, 1 + j, none⟩ = some (.string ⟨v.toArray⟩) := by
             have h := HRS.out.2 (j + 1) v (by rw [HVS.out, List.getElem?_cons_succ, List.getElem?_eq_getElem (by omega), hv])
             rw [Nat.zero_add, Nat.add_comm j 1] at h
             exact h
           have hwj : 1 + j < ws.length := by have := HLn.out; omega
           have HCB := Lib.hid hCB; have HC3 := Lib.hid hC3; have HJ := Lib.hid hj; have HFill := Lib.hid hfill
           clear hCB hC3 hj hy hcn htk htv hfill hv hvl'
           rcases hcs with rfl | rfl | rfl | rfl | rfl
           · go_upto_region 13 with fail
             have pl := fun w => place_c bX 110 (o := 1) rfl w
             have g1 : 0 ≤ 1 + (j : Int) := by omega
             have g2 : 1 + (j : Int) < ws.length := by omega
             have g3 : (1 + (j : Int)).toNat = 1 + j := by omega
             have ew : IntKind.i64.wrap (1 + (j : Int)) = 1 + (j : Int) := IntWalk.i64_in _ (by omega)
             have cN := Lib.hid (number_any ⟨v.toArray⟩ (by show v.length ≤ _; omega))
             refine abs_region (B := Chg [] w1) (S := fun wz => Chg [] w1 wz ∧ wz.heap[bX]? = some (.cells (cv y) 61 (0, 0))) (by kernel_rfl) ⟨HC3.out.drew, HCB.out⟩ ?_
             have hG := good_at [] w1 bX (.cells (cv y) 61 (0, 0))
             refine Abs.tk (i := 0) (d := some 54) (v := ?_) rfl rfl hG ⟨by rfl, fun w9 hw9 => Or.inl ?_⟩ ?_
             rotate_left
             · go_simp
               try with_reducible rfl
             simp only [Act.put, stA, stB, stC]
             refine Abs.tk (i := 1) (d := some 55) (v := ?_) rfl rfl hG ⟨by rfl, fun w9 hw9 => Or.inl ?_⟩ ?_
             rotate_left
             · go_simp
               try with_reducible rfl
             simp only [Act.put, stA, stB, stC]
             refine Abs.tk (i := 2) (d := some 56) (v := ?_) rfl rfl hG ⟨by rfl, fun w9 hw9 => Or.inl ?_⟩ ?_
             rotate_left
             · go_simp
               try with_reducible rfl
             simp only [Act.put, stA, stB, stC]
             refine Abs.tk (i := 3) (d := some 57) (v := _) rfl rfl hG ⟨by rfl, fun w9 hw9 => Or.inr ⟨_, _, ?_, pl w9⟩⟩ ?_
             · go_simp
               try with_reducible rfl
             simp only [Act.put, stA, stB, stC]
             refine Abs.tk (i := 4) (d := some 58) (v := ?_) rfl rfl hG ⟨by rfl, fun w9 hw9 => Or.inl ?_⟩ ?_
             rotate_left
             · go_simp
               try with_reducible rfl
             simp only [Act.put, stA, stB, stC]
             refine Abs.tk (i := 5) (d := some 59) (v := ?_) rfl rfl hG ⟨by rfl, fun w9 hw9 => Or.inl ?_⟩ ?_
             rotate_left
             · go_simp
               try with_reducible rfl
             simp only [Act.put, stA, stB, stC]
             refine Abs.tk (i := 6) (d := some 60) (v := ?_) rfl rfl hG ⟨by rfl, fun w9 hw9 => Or.inl ?_⟩ ?_
             rotate_left
             · go_simp
               try with_reducible rfl
             simp only [Act.put, stA, stB, stC]
             refine Abs.tk (i := 7) (d := some 61) (v := ?_) rfl rfl hG ⟨by rfl, fun w9 hw9 => Or.inl ?_⟩ ?_
             rotate_left
             · go_simp
               try with_reducible rfl
             simp only [Act.put, stA, stB, stC]
             refine Abs.tk (i := 8) (d := some 62) (v := ?_) rfl rfl hG ⟨by rfl, fun w9 hw9 => Or.inl ?_⟩ ?_
             rotate_left
             · replace q := hw9.cell q nmN
               go_simp
               try with_reducible rfl
             simp only [Act.put, stA, stB, stC]
             refine Abs.tk (i := 9) (d := some 63) (v := _) rfl rfl hG ⟨by rfl, fun w9 hw9 => Or.inr ⟨_, _, ?_, cN.out w9 (HG1.out.chg hw9)⟩⟩ ?_
             · go_simp
               try with_reducible rfl
             simp only [Act.put, stA, stB, stC]
             refine Abs.tk (i := 10) (d := some 64) (v := ?_) rfl rfl hG ⟨by rfl, fun w9 hw9 => Or.inl ?_⟩ ?_
             rotate_left
             · go_simp
               try with_reducible rfl
             simp only [Act.put, stA, stB, stC]
             refine Abs.store4 (i := 11) (b := bX) (ds := cv (setI y 110 (numV v))) rfl (by kernel_rfl) (by rfl) (fun w9 => w9.setCell ⟨bX, 1, none⟩ (.int .i64 (numV v))) (fun w9 h9 => ⟨?_, has_set h9 1 _, (Chg.refl _ _).setCell (Or.inl (by simp)) _⟩) (fun _ _ h k => Chg.keeps (Or.inr HLe.out) h k) (good_chg [] w1) (fun hG => ?_)
             · have n0 := cell_of_has h9 1
               have z0 := frozen_of_has h9 1
               simp only [cv, glA, glB, glC] at n0
               clear h9
               go_simp
               try with_reducible rfl
             refine Abs.at_put (d := none) rfl ?_
             simp only [Act.put, stA, stB, stC]
             refine Abs.done (by kernel_rfl) (fun wx hx => NoPanic.normal ?_) _
             have HX9 := Lib.hid hx
             clear hx hG
             go_wp2_with fail
             go_roundg (nb.size - (j + 1))
             case measure => have := HJ.out; omega
             case rel => exact ⟨j + 1, by have := HJ.out; omega, by go_num, by rw [HFill.out]; exact HX9.out.2, HX9.out.1⟩
           · go_upto_region 13 with fail
             have pl := fun w => place_c bX 107 (o := 2) rfl w
             have g1 : 0 ≤ 1 + (j : Int) := by omega
             have g2 : 1 + (j : Int) < ws.length := by omega
             have g3 : (1 + (j : Int)).toNat = 1 + j := by omega
             have ew : IntKind.i64.wrap (1 + (j : Int)) = 1 + (j : Int) := IntWalk.i64_in _ (by omega)
             have cN := Lib.hid (number_any ⟨v.toArray⟩ (by show v.length ≤ _; omega))
             refine abs_region (B := Chg [] w1) (S := fun wz => Chg [] w1 wz ∧ wz.heap[bX]? = some (.cells (cv y) 61 (0, 0))) (by kernel_rfl) ⟨HC3.out.drew, HCB.out⟩ ?_
             have hG := good_at [] w1 bX (.cells (cv y) 61 (0, 0))
             refine Abs.tk (i := 0) (d := some 54) (v := ?_) rfl rfl hG ⟨by rfl, fun w9 hw9 => Or.inl ?_⟩ ?_
             rotate_left
             · go_simp
               try with_reducible rfl
             simp only [Act.put, stA, stB, stC]
             refine Abs.tk (i := 1) (d := some 55) (v := ?_) rfl rfl hG ⟨by rfl, fun w9 hw9 => Or.inl ?_⟩ ?_
             rotate_left
             · go_simp
               try with_reducible rfl
             simp only [Act.put, stA, stB, stC]
             refine Abs.tk (i := 2) (d := some 56) (v := ?_) rfl rfl hG ⟨by rfl, fun w9 hw9 => Or.inl ?_⟩ ?_
             rotate_left
             · go_simp
               try with_reducible rfl
             simp only [Act.put, stA, stB, stC]
             refine Abs.tk (i := 3) (d := some 57) (v := _) rfl rfl hG ⟨by rfl, fun w9 hw9 => Or.inr ⟨_, _, ?_, pl w9⟩⟩ ?_
             · go_simp
               try with_reducible rfl
             simp only [Act.put, stA, stB, stC]
             refine Abs.tk (i := 4) (d := some 58) (v := ?_) rfl rfl hG ⟨by rfl, fun w9 hw9 => Or.inl ?_⟩ ?_
             rotate_left
             · go_simp
               try with_reducible rfl
             simp only [Act.put, stA, stB, stC]
             refine Abs.tk (i := 5) (d := some 59) (v := ?_) rfl rfl hG ⟨by rfl, fun w9 hw9 => Or.inl ?_⟩ ?_
             rotate_left
             · go_simp
               try with_reducible rfl
             simp only [Act.put, stA, stB, stC]
             refine Abs.tk (i := 6) (d := some 60) (v := ?_) rfl rfl hG ⟨by rfl, fun w9 hw9 => Or.inl ?_⟩ ?_
             rotate_left
             · go_simp
               try with_reducible rfl
             simp only [Act.put, stA, stB, stC]
             refine Abs.tk (i := 7) (d := some 61) (v := ?_) rfl rfl hG ⟨by rfl, fun w9 hw9 => Or.inl ?_⟩ ?_
             rotate_left
             · go_simp
               try with_reducible rfl
             simp only [Act.put, stA, stB, stC]
             refine Abs.tk (i := 8) (d := some 62) (v := ?_) rfl rfl hG ⟨by rfl, fun w9 hw9 => Or.inl ?_⟩ ?_
             rotate_left
             · replace q := hw9.cell q nmN
               go_simp
               try with_reducible rfl
             simp only [Act.put, stA, stB, stC]
             refine Abs.tk (i := 9) (d := some 63) (v := _) rfl rfl hG ⟨by rfl, fun w9 hw9 => Or.inr ⟨_, _, ?_, cN.out w9 (HG1.out.chg hw9)⟩⟩ ?_
             · go_simp
               try with_reducible rfl
             simp only [Act.put, stA, stB, stC]
             refine Abs.tk (i := 10) (d := some 64) (v := ?_) rfl rfl hG ⟨by rfl, fun w9 hw9 => Or.inl ?_⟩ ?_
             rotate_left
             · go_simp
               try with_reducible rfl
             simp only [Act.put, stA, stB, stC]
             refine Abs.store4 (i := 11) (b := bX) (ds := cv (setI y 107 (numV v))) rfl (by kernel_rfl) (by rfl) (fun w9 => w9.setCell ⟨bX, 2, none⟩ (.int .i64 (numV v))) (fun w9 h9 => ⟨?_, has_set h9 2 _, (Chg.refl _ _).setCell (Or.inl (by simp)) _⟩) (fun _ _ h k => Chg.keeps (Or.inr HLe.out) h k) (good_chg [] w1) (fun hG => ?_)
             · have n0 := cell_of_has h9 2
               have z0 := frozen_of_has h9 2
               simp only [cv, glA, glB, glC] at n0
               clear h9
               go_simp
               try with_reducible rfl
             refine Abs.at_put (d := none) rfl ?_
             simp only [Act.put, stA, stB, stC]
             refine Abs.done (by kernel_rfl) (fun wx hx => NoPanic.normal ?_) _
             have HX9 := Lib.hid hx
             clear hx hG
             go_wp2_with fail
             go_roundg (nb.size - (j + 1))
             case measure => have := HJ.out; omega
             case rel => exact ⟨j + 1, by have := HJ.out; omega, by go_num, by rw [HFill.out]; exact HX9.out.2, HX9.out.1⟩
           · go_upto_region 13 with fail
             have pl := fun w => place_c bX 105 (o := 3) rfl w
             have g1 : 0 ≤ 1 + (j : Int) := by omega
             have g2 : 1 + (j : Int) < ws.length := by omega
             have g3 : (1 + (j : Int)).toNat = 1 + j := by omega
             have ew : IntKind.i64.wrap (1 + (j : Int)) = 1 + (j : Int) := IntWalk.i64_in _ (by omega)
             have cN := Lib.hid (number_any ⟨v.toArray⟩ (by show v.length ≤ _; omega))
             refine abs_region (B := Chg [] w1) (S := fun wz => Chg [] w1 wz ∧ wz.heap[bX]? = some (.cells (cv y) 61 (0, 0))) (by kernel_rfl) ⟨HC3.out.drew, HCB.out⟩ ?_
             have hG := good_at [] w1 bX (.cells (cv y) 61 (0, 0))
             refine Abs.tk (i := 0) (d := some 54) (v := ?_) rfl rfl hG ⟨by rfl, fun w9 hw9 => Or.inl ?_⟩ ?_
             rotate_left
             · go_simp
               try with_reducible rfl
             simp only [Act.put, stA, stB, stC]
             refine Abs.tk (i := 1) (d := some 55) (v := ?_) rfl rfl hG ⟨by rfl, fun w9 hw9 => Or.inl ?_⟩ ?_
             rotate_left
             · go_simp
               try with_reducible rfl
             simp only [Act.put, stA, stB, stC]
             refine Abs.tk (i := 2) (d := some 56) (v := ?_) rfl rfl hG ⟨by rfl, fun w9 hw9 => Or.inl ?_⟩ ?_
             rotate_left
             · go_simp
               try with_reducible rfl
             simp only [Act.put, stA, stB, stC]
             refine Abs.tk (i := 3) (d := some 57) (v := _) rfl rfl hG ⟨by rfl, fun w9 hw9 => Or.inr ⟨_, _, ?_, pl w9⟩⟩ ?_
             · go_simp
               try with_reducible rfl
             simp only [Act.put, stA, stB, stC]
             refine Abs.tk (i := 4) (d := some 58) (v := ?_) rfl rfl hG ⟨by rfl, fun w9 hw9 => Or.inl ?_⟩ ?_
             rotate_left
             · go_simp
               try with_reducible rfl
             simp only [Act.put, stA, stB, stC]
             refine Abs.tk (i := 5) (d := some 59) (v := ?_) rfl rfl hG ⟨by rfl, fun w9 hw9 => Or.inl ?_⟩ ?_
             rotate_left
             · go_simp
               try with_reducible rfl
             simp only [Act.put, stA, stB, stC]
             refine Abs.tk (i := 6) (d := some 60) (v := ?_) rfl rfl hG ⟨by rfl, fun w9 hw9 => Or.inl ?_⟩ ?_
             rotate_left
             · go_simp
               try with_reducible rfl
             simp only [Act.put, stA, stB, stC]
             refine Abs.tk (i := 7) (d := some 61) (v := ?_) rfl rfl hG ⟨by rfl, fun w9 hw9 => Or.inl ?_⟩ ?_
             rotate_left
             · go_simp
               try with_reducible rfl
             simp only [Act.put, stA, stB, stC]
             refine Abs.tk (i := 8) (d := some 62) (v := ?_) rfl rfl hG ⟨by rfl, fun w9 hw9 => Or.inl ?_⟩ ?_
             rotate_left
             · replace q := hw9.cell q nmN
               go_simp
               try with_reducible rfl
             simp only [Act.put, stA, stB, stC]
             refine Abs.tk (i := 9) (d := some 63) (v := _) rfl rfl hG ⟨by rfl, fun w9 hw9 => Or.inr ⟨_, _, ?_, cN.out w9 (HG1.out.chg hw9)⟩⟩ ?_
             · go_simp
               try with_reducible rfl
             simp only [Act.put, stA, stB, stC]
             refine Abs.tk (i := 10) (d := some 64) (v := ?_) rfl rfl hG ⟨by rfl, fun w9 hw9 => Or.inl ?_⟩ ?_
             rotate_left
             · go_simp
               try with_reducible rfl
             simp only [Act.put, stA, stB, stC]
             refine Abs.store4 (i := 11) (b := bX) (ds := cv (setI y 105 (numV v))) rfl (by kernel_rfl) (by rfl) (fun w9 => w9.setCell ⟨bX, 3, none⟩ (.int .i64 (numV v))) (fun w9 h9 => ⟨?_, has_set h9 3 _, (Chg.refl _ _).setCell (Or.inl (by simp)) _⟩) (fun _ _ h k => Chg.keeps (Or.inr HLe.out) h k) (good_chg [] w1) (fun hG => ?_)
             · have n0 := cell_of_has h9 3
               have z0 := frozen_of_has h9 3
               simp only [cv, glA, glB, glC] at n0
               clear h9
               go_simp
               try with_reducible rfl
             refine Abs.at_put (d := none) rfl ?_
             simp only [Act.put, stA, stB, stC]
             refine Abs.done (by kernel_rfl) (fun wx hx => NoPanic.normal ?_) _
             have HX9 := Lib.hid hx
             clear hx hG
             go_wp2_with fail
             go_roundg (nb.size - (j + 1))
             case measure => have := HJ.out; omega
             case rel => exact ⟨j + 1, by have := HJ.out; omega, by go_num, by rw [HFill.out]; exact HX9.out.2, HX9.out.1⟩
           · go_upto_region 13 with fail
             have pl := fun w => place_c bX 109 (o := 4) rfl w
             have g1 : 0 ≤ 1 + (j : Int) := by omega
             have g2 : 1 + (j : Int) < ws.length := by omega
             have g3 : (1 + (j : Int)).toNat = 1 + j := by omega
             have ew : IntKind.i64.wrap (1 + (j : Int)) = 1 + (j : Int) := IntWalk.i64_in _ (by omega)
             have cN := Lib.hid (number_any ⟨v.toArray⟩ (by show v.length ≤ _; omega))
             refine abs_region (B := Chg [] w1) (S := fun wz => Chg [] w1 wz ∧ wz.heap[bX]? = some (.cells (cv y) 61 (0, 0))) (by kernel_rfl) ⟨HC3.out.drew, HCB.out⟩ ?_
             have hG := good_at [] w1 bX (.cells (cv y) 61 (0, 0))
             refine Abs.tk (i := 0) (d := some 54) (v := ?_) rfl rfl hG ⟨by rfl, fun w9 hw9 => Or.inl ?_⟩ ?_
             rotate_left
             · go_simp
               try with_reducible rfl
             simp only [Act.put, stA, stB, stC]
             refine Abs.tk (i := 1) (d := some 55) (v := ?_) rfl rfl hG ⟨by rfl, fun w9 hw9 => Or.inl ?_⟩ ?_
             rotate_left
             · go_simp
               try with_reducible rfl
             simp only [Act.put, stA, stB, stC]
             refine Abs.tk (i := 2) (d := some 56) (v := ?_) rfl rfl hG ⟨by rfl, fun w9 hw9 => Or.inl ?_⟩ ?_
             rotate_left
             · go_simp
               try with_reducible rfl
             simp only [Act.put, stA, stB, stC]
             refine Abs.tk (i := 3) (d := some 57) (v := _) rfl rfl hG ⟨by rfl, fun w9 hw9 => Or.inr ⟨_, _, ?_, pl w9⟩⟩ ?_
             · go_simp
               try with_reducible rfl
             simp only [Act.put, stA, stB, stC]
             refine Abs.tk (i := 4) (d := some 58) (v := ?_) rfl rfl hG ⟨by rfl, fun w9 hw9 => Or.inl ?_⟩ ?_
             rotate_left
             · go_simp
               try with_reducible rfl
             simp only [Act.put, stA, stB, stC]
             refine Abs.tk (i := 5) (d := some 59) (v := ?_) rfl rfl hG ⟨by rfl, fun w9 hw9 => Or.inl ?_⟩ ?_
             rotate_left
             · go_simp
               try with_reducible rfl
             simp only [Act.put, stA, stB, stC]
             refine Abs.tk (i := 6) (d := some 60) (v := ?_) rfl rfl hG ⟨by rfl, fun w9 hw9 => Or.inl ?_⟩ ?_
             rotate_left
             · go_simp
               try with_reducible rfl
             simp only [Act.put, stA, stB, stC]
             refine Abs.tk (i := 7) (d := some 61) (v := ?_) rfl rfl hG ⟨by rfl, fun w9 hw9 => Or.inl ?_⟩ ?_
             rotate_left
             · go_simp
               try with_reducible rfl
             simp only [Act.put, stA, stB, stC]
             refine Abs.tk (i := 8) (d := some 62) (v := ?_) rfl rfl hG ⟨by rfl, fun w9 hw9 => Or.inl ?_⟩ ?_
             rotate_left
             · replace q := hw9.cell q nmN
               go_simp
               try with_reducible rfl
             simp only [Act.put, stA, stB, stC]
             refine Abs.tk (i := 9) (d := some 63) (v := _) rfl rfl hG ⟨by rfl, fun w9 hw9 => Or.inr ⟨_, _, ?_, cN.out w9 (HG1.out.chg hw9)⟩⟩ ?_
             · go_simp
               try with_reducible rfl
             simp only [Act.put, stA, stB, stC]
             refine Abs.tk (i := 10) (d := some 64) (v := ?_) rfl rfl hG ⟨by rfl, fun w9 hw9 => Or.inl ?_⟩ ?_
             rotate_left
             · go_simp
               try with_reducible rfl
             simp only [Act.put, stA, stB, stC]
             refine Abs.store4 (i := 11) (b := bX) (ds := cv (setI y 109 (numV v))) rfl (by kernel_rfl) (by rfl) (fun w9 => w9.setCell ⟨bX, 4, none⟩ (.int .i64 (numV v))) (fun w9 h9 => ⟨?_, has_set h9 4 _, (Chg.refl _ _).setCell (Or.inl (by simp)) _⟩) (fun _ _ h k => Chg.keeps (Or.inr HLe.out) h k) (good_chg [] w1) (fun hG => ?_)
             · have n0 := cell_of_has h9 4
               have z0 := frozen_of_has h9 4
               simp only [cv, glA, glB, glC] at n0
               clear h9
               go_simp
               try with_reducible rfl
             refine Abs.at_put (d := none) rfl ?_
             simp only [Act.put, stA, stB, stC]
             refine Abs.done (by kernel_rfl) (fun wx hx => NoPanic.normal ?_) _
             have HX9 := Lib.hid hx
             clear hx hG
             go_wp2_with fail
             go_roundg (nb.size - (j + 1))
             case measure => have := HJ.out; omega
             case rel => exact ⟨j + 1, by have := HJ.out; omega, by go_num, by rw [HFill.out]; exact HX9.out.2, HX9.out.1⟩
           · have cU := Lib.hid (fun w => unhexed_any ⟨v.toArray⟩ w (by show v.length ≤ _; exact hvl))
             have HVL := Lib.hid hvl
             replace q := HC3.out.cell q nmN
             go_wp2_with fail
             refine (cU.out _).mono ?_
             rintro e w3 ⟨rfl, hC4⟩
             have HC4 := Lib.hid (HC3.out.trans hC4)
             have HCB4 := Lib.hid (HCB.out.chg hC4)
             clear hC4 q
             obtain ⟨y0, y1, y2, y3, y4, y5⟩ := HCB4.out.all
             have z5 := HCB4.out.fz 5
             have hs5 := has_set HCB4.out 5 (.string ⟨(unhexL v).toArray⟩)
             obtain ⟨W5, hW5⟩ : ∃ W5, w3.setCell ⟨bX, 5, none⟩ (.string ⟨(unhexL v).toArray⟩) = W5 := ⟨_, rfl⟩
             rw [hW5] at hs5
             have hC5 : Chg [] w1 W5 := by rw [← hW5]; exact HC4.out.setCell (Or.inr HLe.out) _
             have HW5 := Lib.hid hW5; have HS5 := Lib.hid hs5; have HC5 := Lib.hid hC5
             clear hW5 hs5 hC5
             go_wp2_with fail
             try rw [HW5.out]
             go_roundg (nb.size - (j + 1))
             case measure => have := HJ.out; omega
             case rel => exact ⟨j + 1, by have := HJ.out; omega, by go_num, by rw [HFill.out]; exact HS5.out, HC5.out⟩
         · have hvl' : vs.length = nb.size := by have := HLn.out; rw [HVS.out, List.length_cons] at this; omega
           obtain rfl : j = nb.size := by omega
           have e1 : ns.take nb.size = ns := List.take_of_length_le (by rw [Hnsz.out]; exact Nat.le_refl _)
           have e2 : vs.take nb.size = vs := List.take_of_length_le (by omega)
           rw [e1, e2] at hy
           have hk9 : (1 : Int) ≤ k ∧ (k : Int) ≤ 10 := by omega
           have htail : (parts 32 s.data.toList).tail = vs := by rw [HWS.out, HVS.out]; rfl
           have hyl : fillC (Ch.of k) (namesL (k : Int)) (parts 32 s.data.toList).tail = y := by rw [htail, Hns.out]; exact hy
           have hlo : lineOk' y := by
             rw [← hyl]
             refine (fill_ok hk9 ?_).1
             rw [htail, Hns.out, ← Hnsz.out]
             exact hvl'
           have hyok : y.ok := by rw [← hy]; exact fill_in (Ch.of_ok (by unfold In64; omega))
           have hym : y.m.length ≤ 1000000 := by
             rw [← hy]
             exact fill_m (by simp [Ch.of]) (fun v hv => HLen.out v (by rw [HVS.out]; exact List.mem_cons_of_mem _ hv))
           have hit : lineL y = s.data.toList ↔ choiceS s.data.toList = some y := by
             have h := fill_line hk9 HFit.out.1 HFit.out.2
             rw [hyl] at h
             exact h
           have cl0 := line_any y hyok hym
           rw [decide_eq_true hlo] at cl0
           have HCB := Lib.hid hCB; have HC3 := Lib.hid hC3; have HIt := Lib.hid hit
           simp only [cv] at cl0
           have cl := Lib.hid cl0
           have HYL := Lib.hid hyl
           clear cl0 hCB hC3 hj hy e1 e2 hvl' htail hyl hlo hit
           obtain ⟨y0, y1, y2, y3, y4, y5⟩ := HCB.out.all
           go_wp2_with fail
           refine (cl.out _ (HG1.out.chg HC3.out)).mono ?_
           rintro e w5 ⟨rfl, hC5⟩
           have HCB5 := Lib.hid (HCB.out.chg hC5); have HC5 := Lib.hid (HC3.out.trans hC5)
           clear y0 y1 y2 y3 y4 y5 hC5
           obtain ⟨y0, y1, y2, y3, y4, y5⟩ := HCB5.out.all
           have HX5 := Lib.hid (HX1.out.chg HC5.out)
           have hne : ¬ b = bX := by have := lt_of_has HX1.out; have := HLe.out; omega
           obtain ⟨x0, x1, x2, x3, x4, x5⟩ := HX5.out.all
           have z0 := HX5.out.fz 0; have z1 := HX5.out.fz 1; have z2 := HX5.out.fz 2; have z3 := HX5.out.fz 3; have z4 := HX5.out.fz 4; have z5 := HX5.out.fz 5
           have hbs : b ∈ [b] ∨ W1.heap.size ≤ b := Or.inl (by simp)
           by_cases heq : lineL y = s.data.toList
           · have f1 := str2_eq heq
             have HF := Lib.hid (HIt.out.1 heq)
             clear heq
             go_wp2_with fail
             obtain ⟨W6, hW6⟩ : ∃ W6, put6 w5 b y = W6 := ⟨_, rfl⟩
             have hB6 : CB W6 b y := by rw [← hW6]; exact put6_has HX5.out y
             have HCF := Lib.hid (show Chg [] w W6 by rw [← hW6]; exact ((HC1.out.trans HC.out).trans HC5.out).put6 (Or.inr (Nat.le_of_eq Hb.out)) y)
             obtain ⟨g0, g1, g2, g3, g4, g5⟩ := hB6.all
             unfold put6 at hW6
             rw [hW6]
             clear hW6 hB6
             exact bodyPost_ret (v := .tuple #[.agg (cv y), .bool true]) (by simp [results, Tryd.results26, go_sem, cv, g0, g1, g2, g3, g4, g5]) rfl ⟨by rw [HF.out]; rfl, HCF.out⟩
           · have f1 := str2_ne heq
             have HF := Lib.hid (show choiceS s.data.toList = none by
               cases h : choiceS s.data.toList with
               | none => rfl
               | some z =>
                 exfalso
                 obtain ⟨k2, a1, a2, a3, a4, a5⟩ := choice_some h
                 have h1 := (word_kind ⟨a1, a2⟩).1 a3
                 have h2 := (word_kind hk9).1 HFit.out.1
                 have h3 : k2 = k := by rw [← h1, h2]
                 subst h3
                 have h4 := (line_choice h).1
                 rw [a5, HYL.out] at h4
                 exact heq h4)
             clear heq
             go_wp2_with fail
             obtain ⟨W6, hW6⟩ : ∃ W6, put6 w5 b y = W6 := ⟨_, rfl⟩
             have hB6 : CB W6 b y := by rw [← hW6]; exact put6_has HX5.out y
             have HCF := Lib.hid (show Chg [] w W6 by rw [← hW6]; exact ((HC1.out.trans HC.out).trans HC5.out).put6 (Or.inr (Nat.le_of_eq Hb.out)) y)
             obtain ⟨g0, g1, g2, g3, g4, g5⟩ := hB6.all
             unfold put6 at hW6
             rw [hW6]
             clear hW6 hB6
             exact bodyPost_ret (v := .tuple #[.agg (cv y), .bool false]) (by simp [results, Tryd.results26, go_sem, cv, g0, g1, g2, g3, g4, g5]) rfl ⟨by rw [HF.out]; exact ⟨y, rfl⟩, HCF.out⟩
      · have HFit := Lib.hid hfit
        by_cases hw : wk = v0
        · have f1 : (wk != v0) = false := by simpa using hw
          have f2 : ((ws.length : Int) != 1 + (nb.size : Int)) = true := by
            rw [bne_iff_ne]
            intro e
            refine HFit.out ⟨by rw [HWS.out, HVS.out, Hwk.out, hw]; rfl, ?_⟩
            rw [HWS.out, Hns.out, ← Hnsz.out]
            omega
          clear hfit
          go_wp2_with fail
          refine (c2.out _).mono ?_
          rintro e w2 ⟨rfl, rfl⟩
          go_wp2_with fail
          go_roundg (11 - (k + 1))
          case measure => have := HK.out; omega
          case rel =>
            refine ⟨k + 1, by have := HK.out; omega, by omega, by go_num, fun j h1 h2 => ?_, rfl⟩
            by_cases hj : j < k
            · exact HNo.out j h1 hj
            · have e : j = k := by omega
              rw [e]; exact HFit.out
        · have f1 : (wk != v0) = true := by simpa using hw
          have f1b : (wk == v0) = false := by simpa using hw
          clear hfit
          go_wp2_with fail
          refine (c2.out _).mono ?_
          rintro e w2 ⟨rfl, rfl⟩
          go_wp2_with fail
          go_roundg (11 - (k + 1))
          case measure => have := HK.out; omega
          case rel =>
            refine ⟨k + 1, by have := HK.out; omega, by omega, by go_num, fun j h1 h2 => ?_, rfl⟩
            by_cases hj : j < k
            · exact HNo.out j h1 hj
            · have e : j = k := by omega
              rw [e]; exact HFit.out
    · have HN := Lib.hid (show choiceS s.data.toList = none from choice_none fun j h1 h2 => hno j h1 (by omega))
      obtain ⟨x0, x1, x2, x3, x4, x5⟩ := HX1.out.all
      have z0 := HX1.out.fz 0; have z1 := HX1.out.fz 1; have z2 := HX1.out.fz 2; have z3 := HX1.out.fz 3; have z4 := HX1.out.fz 4; have z5 := HX1.out.fz 5
      clear hno
      go_wp2_with fail
      obtain ⟨W6, hW6⟩ : ∃ W6, (((((w1.setCell ⟨b, 0, none⟩ (.int .i64 0)).setCell ⟨b, 1, none⟩ (.int .i64 0)).setCell ⟨b, 2, none⟩ (.int .i64 0)).setCell ⟨b, 3, none⟩ (.int .i64 0)).setCell ⟨b, 4, none⟩ (.int .i64 0)).setCell ⟨b, 5, none⟩ (.string ⟨#[]⟩) = W6 := ⟨_, rfl⟩
      have hB6 : CB W6 b Ch.zero := by rw [← hW6]; exact put6_has HX1.out Ch.zero
      have HCF := Lib.hid (show Chg [] w W6 by rw [← hW6]; exact ((HC1.out.trans HC.out)).put6 (Or.inr (Nat.le_of_eq Hb.out)) Ch.zero)
      obtain ⟨g0, g1, g2, g3, g4, g5⟩ : W6.cell? ⟨b, 0, none⟩ = some (.int .i64 0) ∧ W6.cell? ⟨b, 1, none⟩ = some (.int .i64 0) ∧ W6.cell? ⟨b, 2, none⟩ = some (.int .i64 0) ∧ W6.cell? ⟨b, 3, none⟩ = some (.int .i64 0) ∧ W6.cell? ⟨b, 4, none⟩ = some (.int .i64 0) ∧ W6.cell? ⟨b, 5, none⟩ = some (.string ⟨#[]⟩) := hB6.all
      rw [hW6]
      clear hW6 hB6
      exact bodyPost_ret (v := .tuple #[.agg (cv Ch.zero), .bool false]) (by simp [results, Tryd.results26, go_sem, cv, Ch.zero, g0, g1, g2, g3, g4, g5]) rfl ⟨by rw [HN.out]; exact ⟨Ch.zero, rfl⟩, HCF.out⟩

end Go.Proofs.YtkcfbacapaonaaaDoor
