/- QueueKeeps: the walk of the law. -/
import Derived.Test.YtgiackgdceanhaaQueueK
namespace Go.Proofs.Ytgiackgdceanhaa
set_option linter.unusedVariables false
set_option linter.unusedSimpArgs false
open Go.RowKit

set_option maxRecDepth 100000 in
set_option maxHeartbeats 4000000 in
theorem keeps_main (a : Option Addr) (cap : Nat) (zs : List St) (W : World) (hR : ReadsS W a zs) (hz : zs.length ≤ 200) :
    Calls Try.prog 4 #[.slice a zs.length cap] W fun e w' => e = .returned (.bool true) ∧ Below W.heap.size W w' := by
  have HR := Lib.hid hR; clear hR
  go_enter Try.func4, Try.ntmps4
  go_wp2_with fail
  refine (queue_new _).mono ?_
  rintro e w1 ⟨q, r, rfl, hq, hQ, hC⟩
  have HC := Lib.hid hC; clear hC
  have HQ := Lib.hid hQ; clear hQ
  go_wp2_with fail
  go_loopg [4, 5, 39] zs.length (fun gk ov dv i wr => ∃ (k : Nat) (v : Value) (l : List Ent) (D : List Dn), gk + k = zs.length ∧ i = .int .i64 k ∧ Kp wr W.heap.size q r v ov dv l D ∧ D.length ≤ k ∧ l.length ≤ k ∧ Chg [] W wr)
  case atStart => exact ⟨0, _, [], [], rfl, rfl, ⟨HQ.out, World.ownsRow_nil _ _ _ _, by simp [Value.ownBlock], World.ownsRow_nil _ _ _ _, by simp [DoneOK], by simp [AllOk]⟩, by simp, by simp, HC.out⟩
  case round =>
    obtain ⟨k, v, l, D, hk, rfl, hKp, hDk, hlk, hCr⟩ := hrel
    by_cases hlt : k < zs.length
    · obtain ⟨b, off, hae, hb, hcell0⟩ := (HR.out.chg hCr (by simp)) (by omega)
      obtain ⟨x, hx⟩ : ∃ x, zs[k]? = some x := ⟨zs[k], List.getElem?_eq_getElem hlt⟩
      have hcell := hcell0 k x hx
      subst hae
      have HKP := Lib.hid hKp; have HCR := Lib.hid hCr
      have g0 : wr.cell? ⟨b, off + k * 16, none⟩ = some (.int .i64 x.what) := hcell 0 (by omega); have g1 : wr.cell? ⟨b, off + k * 16 + 1, none⟩ = some (.int .i64 x.id) := hcell 1 (by omega); have g2 : wr.cell? ⟨b, off + k * 16 + 2, none⟩ = some (.string x.m) := hcell 2 (by omega); have g3 : wr.cell? ⟨b, off + k * 16 + 3, none⟩ = some (.int .u64 x.s.x0) := hcell 3 (by omega); have g4 : wr.cell? ⟨b, off + k * 16 + 4, none⟩ = some (.int .u64 x.s.x1) := hcell 4 (by omega); have g5 : wr.cell? ⟨b, off + k * 16 + 5, none⟩ = some (.int .u64 x.s.x2) := hcell 5 (by omega); have g6 : wr.cell? ⟨b, off + k * 16 + 6, none⟩ = some (.int .u64 x.s.x3) := hcell 6 (by omega); have g7 : wr.cell? ⟨b, off + k * 16 + 7, none⟩ = some (.int .u64 x.s.y0) := hcell 7 (by omega); have g8 : wr.cell? ⟨b, off + k * 16 + 8, none⟩ = some (.int .u64 x.s.y1) := hcell 8 (by omega); have g9 : wr.cell? ⟨b, off + k * 16 + 9, none⟩ = some (.int .u64 x.s.y2) := hcell 9 (by omega); have g10 : wr.cell? ⟨b, off + k * 16 + 10, none⟩ = some (.int .u64 x.s.y3) := hcell 10 (by omega); have g11 : wr.cell? ⟨b, off + k * 16 + 11, none⟩ = some (.bool x.s.inf) := hcell 11 (by omega); have g12 : wr.cell? ⟨b, off + k * 16 + 12, none⟩ = some (.int .u64 x.s.z0) := hcell 12 (by omega); have g13 : wr.cell? ⟨b, off + k * 16 + 13, none⟩ = some (.int .u64 x.s.z1) := hcell 13 (by omega); have g14 : wr.cell? ⟨b, off + k * 16 + 14, none⟩ = some (.int .u64 x.s.z2) := hcell 14 (by omega); have g15 : wr.cell? ⟨b, off + k * 16 + 15, none⟩ = some (.int .u64 x.s.z3) := hcell 15 (by omega)
      clear hKp hCr hcell0 hx hcell
      go_wp2_with fail
      refine (queue_waiting W.heap.size q r v l _ (HKP.out.hQ.chg0 (by repeat (with_reducible first | exact Chg.refl _ _ | refine Chg.setCell ?_ (Or.inr (Nat.le_refl _)) _ | apply Chg.drew | apply Chg.drewN | apply Chg.alloc)))).mono ?_
      rintro e w2 ⟨bv, rfl, hbv, hC2⟩
      have hbase := Chg.size (S := []) (w := wr) (w' := wr.alloc (.cells #[.int .i64 x.what, .int .i64 x.id, .string x.m, .int .u64 x.s.x0, .int .u64 x.s.x1, .int .u64 x.s.x2, .int .u64 x.s.x3, .int .u64 x.s.y0, .int .u64 x.s.y1, .int .u64 x.s.y2, .int .u64 x.s.y3, .bool x.s.inf, .int .u64 x.s.z0, .int .u64 x.s.z1, .int .u64 x.s.z2, .int .u64 x.s.z3] 44)) (by repeat (with_reducible first | exact Chg.refl _ _ | refine Chg.setCell ?_ (Or.inr (Nat.le_refl _)) _ | apply Chg.drew | apply Chg.drewN | apply Chg.alloc))
      have hC2' : Chg [] wr w2 := Chg.trans (by repeat (with_reducible first | exact Chg.refl _ _ | refine Chg.setCell ?_ (Or.inr (Nat.le_refl _)) _ | apply Chg.drew | apply Chg.drewN | apply Chg.alloc)) hC2
      have hloc := hC2.has (has_alloc_new wr (.cells #[.int .i64 x.what, .int .i64 x.id, .string x.m, .int .u64 x.s.x0, .int .u64 x.s.x1, .int .u64 x.s.x2, .int .u64 x.s.x3, .int .u64 x.s.y0, .int .u64 x.s.y1, .int .u64 x.s.y2, .int .u64 x.s.y3, .bool x.s.inf, .int .u64 x.s.z0, .int .u64 x.s.z1, .int .u64 x.s.z2, .int .u64 x.s.z3] 44)) (by simp)
      generalize hbs : (wr.alloc (.cells #[.int .i64 x.what, .int .i64 x.id, .string x.m, .int .u64 x.s.x0, .int .u64 x.s.x1, .int .u64 x.s.x2, .int .u64 x.s.x3, .int .u64 x.s.y0, .int .u64 x.s.y1, .int .u64 x.s.y2, .int .u64 x.s.y3, .bool x.s.inf, .int .u64 x.s.z0, .int .u64 x.s.z1, .int .u64 x.s.z2, .int .u64 x.s.z3] 44)).heap.size = bs at *
      have hll := lt_of_has hloc
      have hps := kp_sep HKP.out
      have HPS := Lib.hid hps; clear hps
      have hKp2 := HKP.out.chg0 hC2'
      have hCW2 := HCR.out.trans hC2'
      have HKP2 := Lib.hid hKp2; have HCW2 := Lib.hid hCW2; have HLOC := Lib.hid hloc; have HBV := Lib.hid hbv
      clear hC2 hC2' HKP HCR hKp2 hCW2 hloc hbv hbs
      clear g0 g1 g2 g3 g4 g5 g6 g7 g8 g9 g10 g11 g12 g13 g14 g15
      obtain ⟨p, hp⟩ : ∃ p, wr.heap.size = p := ⟨_, rfl⟩
      simp only [hp] at *
      clear hp
      have g0 : w2.cell? ⟨p, 0, none⟩ = some (.int .i64 x.what) := cell_of_has HLOC.out 0; have g1 : w2.cell? ⟨p, 1, none⟩ = some (.int .i64 x.id) := cell_of_has HLOC.out 1; have g2 : w2.cell? ⟨p, 2, none⟩ = some (.string x.m) := cell_of_has HLOC.out 2; have g3 : w2.cell? ⟨p, 3, none⟩ = some (.int .u64 x.s.x0) := cell_of_has HLOC.out 3; have g4 : w2.cell? ⟨p, 4, none⟩ = some (.int .u64 x.s.x1) := cell_of_has HLOC.out 4; have g5 : w2.cell? ⟨p, 5, none⟩ = some (.int .u64 x.s.x2) := cell_of_has HLOC.out 5; have g6 : w2.cell? ⟨p, 6, none⟩ = some (.int .u64 x.s.x3) := cell_of_has HLOC.out 6; have g7 : w2.cell? ⟨p, 7, none⟩ = some (.int .u64 x.s.y0) := cell_of_has HLOC.out 7; have g8 : w2.cell? ⟨p, 8, none⟩ = some (.int .u64 x.s.y1) := cell_of_has HLOC.out 8; have g9 : w2.cell? ⟨p, 9, none⟩ = some (.int .u64 x.s.y2) := cell_of_has HLOC.out 9; have g10 : w2.cell? ⟨p, 10, none⟩ = some (.int .u64 x.s.y3) := cell_of_has HLOC.out 10; have g11 : w2.cell? ⟨p, 11, none⟩ = some (.bool x.s.inf) := cell_of_has HLOC.out 11; have g12 : w2.cell? ⟨p, 12, none⟩ = some (.int .u64 x.s.z0) := cell_of_has HLOC.out 12; have g13 : w2.cell? ⟨p, 13, none⟩ = some (.int .u64 x.s.z1) := cell_of_has HLOC.out 13; have g14 : w2.cell? ⟨p, 14, none⟩ = some (.int .u64 x.s.z2) := cell_of_has HLOC.out 14; have g15 : w2.cell? ⟨p, 15, none⟩ = some (.int .u64 x.s.z3) := cell_of_has HLOC.out 15
      go_upto_if 47 with fail
      go_cut [4, 5, 8, 9, 11, 13, 14, 15, 16] (fun ov' dv' _ _ _ _ _ _ _ wx => ∃ (v' : Value) (l' : List Ent) (D' : List Dn), Kp wx W.heap.size q r v' ov' dv' l' D' ∧ D'.length ≤ k + 1 ∧ l'.length ≤ k + 1 ∧ Chg [] W wx)
      case first =>
        clear_value *
        by_cases hw2 : x.what = 2
        · have t1 : (x.what == 2) = true := by simp [hw2]
          clear hw2
          by_cases hm : x.id ∈ waits l
          · obtain ⟨e0, hem, heid⟩ := List.mem_map.1 hm
            have hfp := filter_pend HKP2.out.hQ.hn (List.mem_filter.1 hem).1 (by simpa using (List.mem_filter.1 hem).2)
            have hfin := finish_yes W.heap.size q r v l e0 x.s w2 HKP2.out.hQ (List.mem_filter.1 hem).1 (by simpa using (List.mem_filter.1 hem).2)
            rw [heid] at hfin hfp
            obtain ⟨i0, _, hi0, hi1⟩ := idxOf_get hm
            have hfd := filter_drop (waits_nodup HKP2.out.hQ.hn) hi1
            have hfl : ((waits l).filter (· ≠ x.id)).length + 1 = (waits l).length := by rw [hfd]; simp; omega
            have h8 := HKP2.out.hQ.h8
            have hpl : (pend l).length = (waits l).length := by simp [waits_pend]
            obtain ⟨n, hn⟩ : ∃ n, (waits l).length = n := ⟨_, rfl⟩
            rw [hn] at h8 hfl
            have HEM := Lib.hid hem; have HEID := Lib.hid heid; have HFP := Lib.hid hfp; have HFL := Lib.hid hfl; have HN := Lib.hid hn; have HPL := Lib.hid hpl
            have hlt2 := lt_of_has HKP2.out.hQ.hq
            clear hem heid hfp hm hi0 hi1 hfd hfl hn hpl
            go_wp2_with fail
            refine hfin.mono ?_
            rintro e w3 ⟨rfl, v4, g4, hv4, hg4, hQ4, hC4⟩
            have hs3 := hC4.size
            have hnq := has_ne HKP2.out.hQ.hq HLOC.out (by decide)
            have hne := has_ne (HKP2.out.hQ.hk e0 (List.mem_filter.1 HEM.out).1) HLOC.out (by decide)
            have hloc3 := hC4.has HLOC.out (by simp only [List.mem_cons, List.not_mem_nil, or_false, not_or]; exact ⟨fun h => hnq h.symm, fun h => hne h.symm⟩)
            have key : ∀ {T : TypeId} {bs c n : Nat} {vv : Value} {xs : List Value}, w2.ownsRow bs T c vv n xs → T ≠ 89 → T ≠ 93 → w3.ownsRow bs T c vv n xs := by
              intro T bs c n vv xs hh h1 h2
              refine own_chg hh hC4 ?_
              intro b hb hm
              rcases List.mem_cons.1 hm with rfl | hm
              · exact own_ne hh HKP2.out.hQ.hq h1 hb.symm
              · obtain rfl := List.mem_singleton.1 hm
                exact own_ne hh (HKP2.out.hQ.hk e0 (List.mem_filter.1 HEM.out).1) h2 hb.symm
            have hov3 := key HKP2.out.hk (by decide) (by decide)
            have hdv3 := key HKP2.out.hd (by decide) (by decide)
            have hbv3 := key HBV.out (by decide) (by decide)
            have hCW3 : Chg [] W w3 := HCW2.out.trans_new hC4 (by
              intro y hy
              rcases List.mem_cons.1 hy with rfl | hy
              · exact Or.inr HKP2.out.hQ.hbase.1
              · obtain rfl := List.mem_singleton.1 hy
                exact Or.inr (HKP2.out.hQ.hbase.2.2 e0 (List.mem_filter.1 HEM.out).1))
            have hll3 := lt_of_has hloc3
            have hWb : W.heap.size ≤ w3.heap.size := hCW3.size
            have HLOC3 := Lib.hid hloc3; have HOV3 := Lib.hid hov3; have HDV3 := Lib.hid hdv3; have HBV3 := Lib.hid hbv3; have HCW3 := Lib.hid hCW3; have HQ4 := Lib.hid hQ4
            obtain ⟨ao, co, rfl⟩ := own_shape hov3
            obtain ⟨ab, cb, rfl⟩ := own_shape hbv3
            rw [HN.out]
            clear key hloc3 hov3 hdv3 hbv3 hCW3 hQ4 hC4 hnq hne hfin hv4 hg4
            clear g0 g1 g2 g3 g4 g5 g6 g7 g8 g9 g10 g11 g12 g13 g14 g15
            go_wp2_with fail
            go_loopw [9, 58] (fun rv i wx => ∃ j : Nat, j ≤ n ∧ i = .int .i64 j ∧ wx.ownsRow w3.heap.size 3 1 rv (((waits l).take j).filter (· ≠ x.id)).length (ints (((waits l).take j).filter (· ≠ x.id))) ∧ Chg [] w3 wx) (fun _ i _ => n - (intOf i).toNat)
            case atStart => exact ⟨0, by omega, rfl, World.ownsRow_nil _ _ _ _, Chg.refl _ _⟩
            case round =>
              rename World => wx
              obtain ⟨j, hj, rfl, hrv, hCx⟩ := hrel
              have hlocx := hCx.has HLOC3.out (by simp)
              have hllx := lt_of_has hlocx
              have e1 : wx.cell? ⟨p, 1, none⟩ = some (.int .i64 x.id) := cell_of_has hlocx 1
              have HLX := Lib.hid hlocx; have HCX := Lib.hid hCx
              have hsx := hCx.size
              clear hlocx hCx
              by_cases hjn : j < n
              · obtain ⟨g, cap5, cur, hve, hRd, _, _, hgc, _⟩ := own_ints (own_chg HOV3.out HCX.out (by simp)) (by rw [HN.out]; omega)
                rw [HN.out] at hve
                injection hve with hv1 hv2 hv3
                subst hv1; subst hv3
                obtain ⟨gb, go, hge, _, hcc⟩ := hRd (by rw [HN.out]; omega)
                have hx := hcc j (by rw [HN.out]; exact hjn)
                injection hge with hge
                injection hge with hge1 hge2
                subst hge1; subst hge2
                rw [Nat.zero_add] at hx
                have hget : (waits l)[j]? = some ((waits l).getD j 0) := by
                  have : j < (waits l).length := by rw [HN.out]; exact hjn
                  simp [List.getD, this]
                have hts := filter_take_succ (fun y => decide (y ≠ x.id)) hget
                have hfl2 : (((waits l).take j).filter (· ≠ x.id)).length ≤ j := by
                  have := List.length_filter_le (fun y => decide (y ≠ x.id)) ((waits l).take j)
                  have h2 := List.length_take_le j (waits l)
                  omega
                generalize (waits l).getD j 0 = y at *
                have HTS := Lib.hid hts
                clear hts hget hRd hcc hgc
                by_cases hy : y = x.id
                · have t2 : (y != x.id) = false := by simp [hy]
                  have HY := Lib.hid hy
                  clear hy
                  go_wp2_with fail
                  refine ⟨⟨j+1, by omega, by go_num, ?_, HCX.out⟩, by simp [intOf]; omega⟩
                  rw [HTS.out, HY.out]; simpa using hrv
                · have t2 : (y != x.id) = true := by simp [hy]
                  have HY := Lib.hid hy
                  clear hy
                  go_wp2_with (at_builtin; go_loud (refine wpList_push rfl (.tmp 67) (.tmp 69) 22 rfl elem_intS w3.heap.size rfl (hrv.alloc _) wx.heap.size #[.int .i64 y] rfl rfl (has_alloc_at (by first | rfl | (simp; done))) (by simp [Value.oneCell']) (by omega) (by omega) (by simp; omega) ?_); intro v3 w6 hown6 hgrow6 hat6)
                  refine ⟨⟨j+1, by omega, by go_num, ?_, ?_⟩, by simp [intOf]; omega⟩
                  · rw [HTS.out]; simpa [ints, HY.out] using hown6
                  · refine (HCX.out.alloc _).grown hgrow6 ?_
                    intro b3 hb3
                    exact Or.inr (hrv.lt b3 hb3).1
              · obtain rfl : n = j := by omega
                have htl : (waits l).take n = waits l := List.take_of_length_le (by rw [HN.out]; exact Nat.le_refl _)
                rw [htl] at hrv
                obtain ⟨ar, cr, rfl⟩ := own_shape hrv
                have hfl := HFL.out
                have HRV := Lib.hid hrv
                obtain ⟨n1, hn1⟩ : ∃ n1, ((waits l).filter (· ≠ x.id)).length = n1 := ⟨_, rfl⟩
                have HN1 := Lib.hid hn1
                rw [hn1] at hfl
                rw [hn1]
                clear htl hrv hn1
                subst hfl
                have HBV6 := Lib.hid (own_chg HBV3.out HCX.out (by simp)); have HDV6 := Lib.hid (own_chg HDV3.out HCX.out (by simp))
                clear HBV3 HOV3
                obtain ⟨ad, cd, rfl⟩ := own_shape HDV3.out
                go_wp2_with fail
                go_loopw [5, 80] (fun dw i wy => ∃ j : Nat, j ≤ n1 + 1 ∧ i = .int .i64 j ∧
                    wy.ownsRow W.heap.size 44 16 dw (dnL D (pend l) x.id x.s j).length (stepCells (dnL D (pend l) x.id x.s j)) ∧
                    Chg (Value.slice ad D.length cd).ownBlock.toList wx wy ∧ (∀ b, dw.ownBlock = some b → (Value.slice ad D.length cd).ownBlock = some b ∨ wx.heap.size ≤ b)) (fun _ i _ => n1 + 1 - (intOf i).toNat)
                case atStart => exact ⟨0, by omega, rfl, by simpa [dnL] using HDV6.out, Chg.refl _ _, fun b hb => Or.inl hb⟩
                case round =>
                  rename World => wy
                  obtain ⟨j, hj, rfl, hdw, hCy, hdb⟩ := hrel
                  have hsy := hCy.size
                  have hpD : p ∉ (Value.slice ad D.length cd).ownBlock.toList := by
                    intro hm
                    exact HPS.out p (Option.mem_toList.1 hm) rfl
                  have hlocy := hCy.has HLX.out hpD
                  have hlly := lt_of_has hlocy
                  have f0 : wy.cell? ⟨p, 0, none⟩ = some (.int .i64 x.what) := cell_of_has hlocy 0; have f1 : wy.cell? ⟨p, 1, none⟩ = some (.int .i64 x.id) := cell_of_has hlocy 1; have f2 : wy.cell? ⟨p, 2, none⟩ = some (.string x.m) := cell_of_has hlocy 2; have f3 : wy.cell? ⟨p, 3, none⟩ = some (.int .u64 x.s.x0) := cell_of_has hlocy 3; have f4 : wy.cell? ⟨p, 4, none⟩ = some (.int .u64 x.s.x1) := cell_of_has hlocy 4; have f5 : wy.cell? ⟨p, 5, none⟩ = some (.int .u64 x.s.x2) := cell_of_has hlocy 5; have f6 : wy.cell? ⟨p, 6, none⟩ = some (.int .u64 x.s.x3) := cell_of_has hlocy 6; have f7 : wy.cell? ⟨p, 7, none⟩ = some (.int .u64 x.s.y0) := cell_of_has hlocy 7; have f8 : wy.cell? ⟨p, 8, none⟩ = some (.int .u64 x.s.y1) := cell_of_has hlocy 8; have f9 : wy.cell? ⟨p, 9, none⟩ = some (.int .u64 x.s.y2) := cell_of_has hlocy 9; have f10 : wy.cell? ⟨p, 10, none⟩ = some (.int .u64 x.s.y3) := cell_of_has hlocy 10; have f11 : wy.cell? ⟨p, 11, none⟩ = some (.bool x.s.inf) := cell_of_has hlocy 11; have f12 : wy.cell? ⟨p, 12, none⟩ = some (.int .u64 x.s.z0) := cell_of_has hlocy 12; have f13 : wy.cell? ⟨p, 13, none⟩ = some (.int .u64 x.s.z1) := cell_of_has hlocy 13; have f14 : wy.cell? ⟨p, 14, none⟩ = some (.int .u64 x.s.z2) := cell_of_has hlocy 14; have f15 : wy.cell? ⟨p, 15, none⟩ = some (.int .u64 x.s.z3) := cell_of_has hlocy 15
                  have hbvy := own_chg HBV6.out hCy (fun b hb hm => own_own_ne HBV6.out HDV6.out (by decide) b hb (Option.mem_toList.1 hm))
                  have HLY := Lib.hid hlocy; have HBVY := Lib.hid hbvy; have HCY := Lib.hid hCy; have HDB := Lib.hid hdb; have HDW := Lib.hid hdw
                  clear hlocy hbvy hCy hdb
                  by_cases hjn : j < n1 + 1
                  · have hkl : j < (pend l).length := by rw [HPL.out, HN.out]; exact hjn
                    obtain ⟨ej, hej⟩ : ∃ ej, (pend l)[j] = ej := ⟨_, rfl⟩
                    have hre := own_req (by have hh := HBVY.out; rw [HN.out] at hh; exact hh) hkl hej
                    obtain ⟨gn, rfl, hgn, hy1, hy2⟩ := hre
                    have hts := dnL_succ D (pend l) x.id x.s (j := j) (e := ej) (by rw [List.getElem?_eq_getElem hkl, hej])
                    have hdl : (dnL D (pend l) x.id x.s j).length ≤ D.length + j := dnL_len D (pend l) x.id x.s j
                    have HTS := Lib.hid hts
                    clear hts hkl hej
                    have g1 : ¬ gn = wy.heap.size := by omega
                    by_cases hy : ej.id = x.id
                    · have t2 : (ej.id == x.id) = true := by simp [hy]
                      have HY := Lib.hid hy
                      clear hy hdw
                      obtain ⟨aw, cw, rfl⟩ := own_shape HDW.out
                      go_upto_region 25 with fail
                      obtain ⟨W1, hW1⟩ : ∃ W1, wy.alloc (.cells #[.int .i64 ej.id, .string ej.m] 36) = W1 := ⟨_, rfl⟩
                      have hCW1 : Chg [] wy W1 := by rw [← hW1]; exact (Chg.refl _ _).alloc _
                      have hz1 : W1.heap.size = wy.heap.size + 1 := by rw [← hW1]; simp
                      have hq1 : W1.heap[wy.heap.size]? = some (.cells #[.int .i64 ej.id, .string ej.m] 36 (0, 0)) := by rw [← hW1]; exact has_alloc_new _ _
                      have hl1 := hCW1.has HLY.out (by simp)
                      have r0 : W1.cell? ⟨wy.heap.size, 0, none⟩ = some (.int .i64 ej.id) := cell_of_has hq1 0
                      have r1 : W1.cell? ⟨wy.heap.size, 1, none⟩ = some (.string ej.m) := cell_of_has hq1 1
                      rw [hW1]
                      clear f0 f1 f2 f3 f4 f5 f6 f7 f8 f9 f10 f11 f12 f13 f14 f15
                      have f0 : W1.cell? ⟨p, 0, none⟩ = some (.int .i64 x.what) := cell_of_has hl1 0; have f1 : W1.cell? ⟨p, 1, none⟩ = some (.int .i64 x.id) := cell_of_has hl1 1; have f2 : W1.cell? ⟨p, 2, none⟩ = some (.string x.m) := cell_of_has hl1 2; have f3 : W1.cell? ⟨p, 3, none⟩ = some (.int .u64 x.s.x0) := cell_of_has hl1 3; have f4 : W1.cell? ⟨p, 4, none⟩ = some (.int .u64 x.s.x1) := cell_of_has hl1 4; have f5 : W1.cell? ⟨p, 5, none⟩ = some (.int .u64 x.s.x2) := cell_of_has hl1 5; have f6 : W1.cell? ⟨p, 6, none⟩ = some (.int .u64 x.s.x3) := cell_of_has hl1 6; have f7 : W1.cell? ⟨p, 7, none⟩ = some (.int .u64 x.s.y0) := cell_of_has hl1 7; have f8 : W1.cell? ⟨p, 8, none⟩ = some (.int .u64 x.s.y1) := cell_of_has hl1 8; have f9 : W1.cell? ⟨p, 9, none⟩ = some (.int .u64 x.s.y2) := cell_of_has hl1 9; have f10 : W1.cell? ⟨p, 10, none⟩ = some (.int .u64 x.s.y3) := cell_of_has hl1 10; have f11 : W1.cell? ⟨p, 11, none⟩ = some (.bool x.s.inf) := cell_of_has hl1 11; have f12 : W1.cell? ⟨p, 12, none⟩ = some (.int .u64 x.s.z0) := cell_of_has hl1 12; have f13 : W1.cell? ⟨p, 13, none⟩ = some (.int .u64 x.s.z1) := cell_of_has hl1 13; have f14 : W1.cell? ⟨p, 14, none⟩ = some (.int .u64 x.s.z2) := cell_of_has hl1 14; have f15 : W1.cell? ⟨p, 15, none⟩ = some (.int .u64 x.s.z3) := cell_of_has hl1 15
                      have HCW1 := Lib.hid hCW1; have HZ1 := Lib.hid hz1
                      clear hCW1 hz1 hq1 hl1 hW1
                      go_wp2_with (at_builtin; go_loud (refine wpList_push rfl (.tmp 90) (.tmp 95) 42 rfl elem_step W.heap.size rfl ((own_chg HDW.out HCW1.out (by simp)).alloc _) W1.heap.size #[.int .i64 0, .int .i64 ej.id, .string ej.m, .int .u64 x.s.x0, .int .u64 x.s.x1, .int .u64 x.s.x2, .int .u64 x.s.x3, .int .u64 x.s.y0, .int .u64 x.s.y1, .int .u64 x.s.y2, .int .u64 x.s.y3, .bool x.s.inf, .int .u64 x.s.z0, .int .u64 x.s.z1, .int .u64 x.s.z2, .int .u64 x.s.z3] rfl rfl (has_alloc_at (by first | rfl | (simp; done))) (by simp [Value.oneCell']) (by omega) (by omega) (by have := HZ1.out; simp; omega) ?_); intro v3 w6 hown6 hgrow6 hat6)
                      refine ⟨⟨j+1, by omega, by go_num, ?_, ?_, ?_⟩, by simp [intOf]; omega⟩
                      · rw [HTS.out, if_pos HY.out]; exact own_snoc_step hown6
                      · refine ((HCY.out.trans_new HCW1.out (by simp)).alloc _).grown hgrow6 ?_
                        intro b3 hb3
                        rcases HDB.out b3 hb3 with h | h
                        · exact Or.inl (Option.mem_toList.2 h)
                        · exact Or.inr h
                      · intro b3 hb3
                        rcases hat6 with h | h
                        · exact HDB.out b3 (h.symm.trans hb3)
                        · rw [h] at hb3
                          injection hb3 with hb3
                          have := HZ1.out
                          simp at hb3
                          exact Or.inr (by omega)
                    · have t2 : (ej.id == x.id) = false := by simp [hy]
                      have HY := Lib.hid hy
                      clear hy
                      go_wp2_with fail
                      refine ⟨⟨j+1, by omega, by go_num, ?_, HCY.out.alloc _, HDB.out⟩, by simp [intOf]; omega⟩
                      rw [HTS.out, if_neg HY.out, List.append_nil]; exact HDW.out.alloc _
                  · obtain rfl : n1 + 1 = j := by omega
                    go_wp2_with fail
                    go_meet
                    have hem := HEM.out
                    have hid := HEID.out
                    have hend : dnL D (pend l) x.id x.s (n1 + 1) = D ++ [⟨e0.id, e0.m, x.s⟩] := by
                      unfold dnL
                      rw [List.take_of_length_le (by rw [HPL.out, HN.out]; exact Nat.le_refl _), HFP.out]; rfl
                    have hdw' := HDW.out
                    rw [hend] at hdw'
                    have hkp := kp_finish HKP2.out (List.mem_filter.1 hem).1 (by simpa using (List.mem_filter.1 hem).2) (s := x.s) (by rw [hid]; exact HQ4.out) HDV3.out (by rw [hid]; exact HRV.out) HCX.out hdw' HCY.out
                    rw [hid] at hkp
                    refine ⟨v4, finL l x.id x.s, D ++ [⟨x.id, e0.m, x.s⟩], ?_, ?_, ?_, ?_⟩
                    rotate_right
                    · exact (HCW3.out.trans HCX.out).trans_new HCY.out (fun b hb => Or.inr (HDV3.out.lt b (Option.mem_toList.1 hb)).1)
                    · rw [HN1.out] at hkp
                      exact hkp
                    · simp; omega
                    · simp [finL]; omega
          · have hfin := finish_no W.heap.size q r v l x.id x.s w2 HKP2.out.hQ hm
            clear hm
            go_wp2_with fail
            refine hfin.mono ?_
            rintro e w3 ⟨rfl, hC3⟩
            clear hfin
            have HC3 := Lib.hid hC3; clear hC3
            go_wp2_with fail
            go_meet
            exact ⟨v, l, D, HKP2.out.chg0 HC3.out, by omega, by omega, HCW2.out.trans HC3.out⟩
        · have t1 : (x.what == 2) = false := by simp [hw2]
          clear hw2
          as_aux_lemma =>
          have hsub := submit_any W.heap.size q r v l x.id x.m w2 HKP2.out.hQ
          have hlt2 := lt_of_has HKP2.out.hQ.hq
          have h8 := HKP2.out.hQ.h8
          go_wp2_with fail
          refine hsub.mono ?_
          generalize subSig l x.id x.m = sg
          rintro e w3 ⟨rfl, v', b2, hb2, hQ2, hv2, hC2⟩
          clear hsub
          have hnq := has_ne HKP2.out.hQ.hq HLOC.out (by decide)
          have hloc3 := hC2.has HLOC.out (by
            intro hm
            rcases List.mem_cons.1 hm with h | hm
            · exact hnq h.symm
            · rcases List.mem_cons.1 hm with h | hm
              · exact HKP2.out.hQ.hm.ne HLOC.out h.symm
              · exact own_ne HKP2.out.hQ.hv HLOC.out (by decide) (Option.mem_toList.1 hm).symm)
          have hov3 := own_submit HKP2.out.hQ HKP2.out.hk HKP2.out.hs hC2
          have hdv3 := own_submit' HKP2.out.hQ HKP2.out.hd (by decide) (by decide) hC2
          have hsep3 := sep_submit HKP2.out.hk HKP2.out.hs hv2
          have hCW3 := HKP2.out.hQ.chgs hC2 HCW2.out (Nat.le_refl _)
          obtain ⟨ao, co, rfl⟩ := own_shape hov3
          obtain ⟨ab, cb, rfl⟩ := own_shape HBV.out
          have hll3 := lt_of_has hloc3
          have HLOC3 := Lib.hid hloc3; have HOV3 := Lib.hid hov3; have HDV3 := Lib.hid hdv3; have HSEP3 := Lib.hid hsep3; have HCW3 := Lib.hid hCW3
          clear hloc3 hov3 hdv3 hsep3 hCW3 hnq
          clear g0 g1 g2 g3 g4 g5 g6 g7 g8 g9 g10 g11 g12 g13 g14 g15
          rcases subL_cases l x.id x.m b2 with ⟨hok, hno, hn8, hc, hl⟩ | ⟨hl, hc2, hc⟩
          · rw [hc]
            rw [hl] at hQ2
            have hws : (waits (l ++ [⟨x.id, x.m, false, .zero, b2⟩])).length = (waits l).length + 1 := by rw [waits_snoc _ _ rfl]; simp
            have hwt := fun w hq => queue_waiting W.heap.size q r v' (l ++ [⟨x.id, x.m, false, .zero, b2⟩]) w hq
            simp only [hws] at hwt
            have HQ2 := Lib.hid hQ2; have HOK := Lib.hid hok; have HWT := Lib.hid hwt
            clear hok hno hn8 hc hl hQ2 hws hwt hv2 hC2
            go_wp2_with fail
            refine (HWT.out _ (HQ2.out.chg0 (by repeat (with_reducible first | exact Chg.refl _ _ | refine Chg.setCell ?_ (Or.inr (Nat.le_refl _)) _ | apply Chg.drew | apply Chg.drewN | apply Chg.alloc)))).mono ?_
            rintro e w5 ⟨nv, rfl, hnv, hC5⟩
            obtain ⟨an, cn, rfl⟩ := own_shape hnv
            have hC5' : Chg [] w3 w5 := Chg.trans (by repeat (with_reducible first | exact Chg.refl _ _ | refine Chg.setCell ?_ (Or.inr (Nat.le_refl _)) _ | apply Chg.drew | apply Chg.drewN | apply Chg.alloc)) hC5
            have hl5 := hC5'.has HLOC3.out (by simp)
            have e1 : w5.cell? ⟨p, 1, none⟩ = some (.int .i64 x.id) := cell_of_has hl5 1
            have hll5 := lt_of_has hl5
            have hs5 := hC5'.size
            have hW5 := (HCW3.out.trans hC5').size
            have HC5 := Lib.hid hC5'
            obtain ⟨n, hn⟩ : ∃ n, (waits l).length = n := ⟨_, rfl⟩
            have HN := Lib.hid hn
            rw [hn] at h8
            rw [hn]
            clear hnv hC5 hC5' hl5 hn
            have t2 : (((n : Int) + 1) == (n : Int) + 1) = true := by simp
            go_wp2_with (at_builtin; go_loud (refine wpList_push rfl (.tmp 118) (.tmp 122) 22 rfl elem_intS W.heap.size rfl ((by have hh := own_chg HOV3.out HC5.out (by simp); rw [HN.out] at hh; exact hh : w5.ownsRow W.heap.size 3 1 (.slice ao n co) n (ints (waits l))).alloc _) w5.heap.size #[.int .i64 x.id] rfl rfl (has_alloc_at (by first | rfl | (simp; done))) (by simp [Value.oneCell']) (by omega) (by omega) (by simp; omega) ?_); intro v6 w6 hown6 hgrow6 hat6)
            go_meet
            have hcw5 : Chg [] w3 (w5.alloc (.cells #[.int .i64 x.id] 3)) := HC5.out.alloc _
            refine ⟨v', l ++ [⟨x.id, x.m, false, .zero, b2⟩], D, kp_submit_new (HQ2.out.chg0 hcw5) (own_chg HOV3.out hcw5 (by simp)) HSEP3.out (own_chg HDV3.out hcw5 (by simp)) HKP2.out.hD HKP2.out.hA HOK.out (by rw [HN.out]; exact hgrow6) (by rw [HN.out]; exact hat6) (by rw [HN.out]; exact hown6), by omega, by simp; omega, ?_⟩
            refine (HCW3.out.trans hcw5).grown hgrow6 ?_
            intro b3 hb3
            exact Or.inr (HOV3.out.lt b3 (by rw [HN.out]; exact hb3)).1
          · rw [hl] at hQ2
            have hkp3 := kp_submit_old HKP2.out hQ2 hv2 hC2
            have HKP3 := Lib.hid hkp3; have HC2 := Lib.hid hc2
            clear hkp3 hl hQ2 hv2 hC2 hc2
            rcases hc with hc | hc | hc | hc
            all_goals
              have hc2 := HC2.out
              rw [hc] at hc2
              simp only [Int.reduceEq, false_implies, forall_const, reduceCtorEq, true_implies] at hc2
              rw [hc]
              clear hc
              have hwt := fun w hq => queue_waiting W.heap.size q r v' l w hq
              have HWT := Lib.hid hwt; clear hwt
              go_wp2_with fail
              refine (HWT.out _ (HKP3.out.hQ.chg0 (by repeat (with_reducible first | exact Chg.refl _ _ | refine Chg.setCell ?_ (Or.inr (Nat.le_refl _)) _ | apply Chg.drew | apply Chg.drewN | apply Chg.alloc)))).mono ?_
              rintro e w5 ⟨nv, rfl, hnv, hC5⟩
              obtain ⟨an, cn, rfl⟩ := own_shape hnv
              have hC5' : Chg [] w3 w5 := Chg.trans (by repeat (with_reducible first | exact Chg.refl _ _ | refine Chg.setCell ?_ (Or.inr (Nat.le_refl _)) _ | apply Chg.drew | apply Chg.drewN | apply Chg.alloc)) hC5
              have HC5 := Lib.hid hC5'
              clear hnv hC5 hC5'
              generalize (waits l).length = n at *
              have t2 : ((n : Int) == (n : Int) + 1) = false := by simp; omega
              try subst hc2
              go_wp2_with fail
              go_meet
              exact ⟨v', l, D, HKP3.out.chg0 HC5.out, by omega, by omega, HCW3.out.trans HC5.out⟩
      case rest => as_aux_lemma =>
        obtain ⟨v', l', D', hKp', hD', hl', hC'⟩ := hcut
        have HKP3 := Lib.hid hKp'; have HC3 := Lib.hid hC'
        clear hKp' hC'
        clear g0 g1 g2 g3 g4 g5 g6 g7 g8 g9 g10 g11 g12 g13 g14 g15
        go_wp2_with fail
        refine (queue_waiting W.heap.size q r v' l' _ HKP3.out.hQ).mono ?_
        rintro e w3 ⟨nv, rfl, hnv, hC4⟩
        obtain ⟨a3, cap3, rfl⟩ := own_shape HKP3.out.hk
        obtain ⟨a4, cap4, rfl⟩ := own_shape hnv
        have h8 := HKP3.out.hQ.h8
        have hpl : (pend l').length = (waits l').length := by simp [waits_pend]
        obtain ⟨n', hn'⟩ : ∃ n', (waits l').length = n' := ⟨_, rfl⟩
        have hKp4 := HKP3.out.chg0 hC4
        have HKP4 := Lib.hid hKp4; have HNV := Lib.hid hnv; have HC4 := Lib.hid (HC3.out.trans hC4); have HN' := Lib.hid hn'; have HPL := Lib.hid hpl
        rw [hn'] at h8
        rw [hn']
        clear hKp4 hnv hC4 HKP3 HC3 hn' hpl
        go_wp2_with fail
        go_loop [150] (fun i => ∃ j : Nat, j ≤ n' ∧ i = .int .i64 j) (fun i => n' - (intOf i).toNat)
        case atStart => exact ⟨0, by omega, rfl⟩
        case round =>
          obtain ⟨j, hj, rfl⟩ := hrel
          by_cases hjn : j < n'
          · obtain ⟨g, cap5, cur, hve, hRd, _, _, hgc, _⟩ := own_ints HKP4.out.hk (by rw [HN'.out]; omega)
            injection hve with hv1 hv2 hv3
            subst hv1; subst hv3
            obtain ⟨gb, go, hge, _, hcc⟩ := hRd (by rw [HN'.out]; omega)
            have hx := hcc j (by rw [HN'.out]; exact hjn)
            injection hge with hge
            injection hge with hge1 hge2
            subst hge1; subst hge2
            rw [Nat.zero_add] at hx
            have hkl : j < (pend l').length := by rw [HPL.out, HN'.out]; exact hjn
            have hid : (waits l').getD j 0 = (pend l')[j].id := by simp [waits_pend, List.getD, hkl]
            rw [hid] at hx
            obtain ⟨gn, rfl, _, hy1, hy2⟩ := own_req HNV.out (j := j) hkl rfl
            generalize (pend l')[j].id = y at *
            clear hy2
            clear hRd hcc hgc hid hkl
            go_wp2_with fail
            exact ⟨⟨j+1, by omega, by go_num⟩, by simp [intOf]; omega⟩
          · obtain rfl : n' = j := by omega
            obtain ⟨a6, cap6, rfl⟩ := own_shape HKP4.out.hd
            clear HNV
            as_aux_lemma =>
            go_wp2_with fail
            go_loopw [165] (fun i wx => ∃ j : Nat, j ≤ D'.length ∧ i = .int .i64 j ∧ Chg [] w3 wx) (fun i _ => D'.length - (intOf i).toNat)
            case atStart => exact ⟨0, by omega, rfl, Chg.refl _ _⟩
            case round =>
              rename World => wx
              obtain ⟨j, hj, rfl, hCx⟩ := hrel
              have HKX := Lib.hid (HKP4.out.chg0 hCx); have HCX := Lib.hid hCx
              clear hCx
              by_cases hjD : j < D'.length
              · obtain ⟨d, hd⟩ : ∃ d, D'[j]? = some d := ⟨_, List.getElem?_eq_getElem hjD⟩
                obtain ⟨gd, rfl, hgl, hcd⟩ := own_step HKX.out.hd hd
                have c0 : wx.cell? ⟨gd, j * 16, none⟩ = some (.int .i64 0) := hcd 0 (by omega); have c1 : wx.cell? ⟨gd, j * 16 + 1, none⟩ = some (.int .i64 d.id) := hcd 1 (by omega); have c2 : wx.cell? ⟨gd, j * 16 + 2, none⟩ = some (.string d.m) := hcd 2 (by omega); have c3 : wx.cell? ⟨gd, j * 16 + 3, none⟩ = some (.int .u64 d.s.x0) := hcd 3 (by omega); have c4 : wx.cell? ⟨gd, j * 16 + 4, none⟩ = some (.int .u64 d.s.x1) := hcd 4 (by omega); have c5 : wx.cell? ⟨gd, j * 16 + 5, none⟩ = some (.int .u64 d.s.x2) := hcd 5 (by omega); have c6 : wx.cell? ⟨gd, j * 16 + 6, none⟩ = some (.int .u64 d.s.x3) := hcd 6 (by omega); have c7 : wx.cell? ⟨gd, j * 16 + 7, none⟩ = some (.int .u64 d.s.y0) := hcd 7 (by omega); have c8 : wx.cell? ⟨gd, j * 16 + 8, none⟩ = some (.int .u64 d.s.y1) := hcd 8 (by omega); have c9 : wx.cell? ⟨gd, j * 16 + 9, none⟩ = some (.int .u64 d.s.y2) := hcd 9 (by omega); have c10 : wx.cell? ⟨gd, j * 16 + 10, none⟩ = some (.int .u64 d.s.y3) := hcd 10 (by omega); have c11 : wx.cell? ⟨gd, j * 16 + 11, none⟩ = some (.bool d.s.inf) := hcd 11 (by omega); have c12 : wx.cell? ⟨gd, j * 16 + 12, none⟩ = some (.int .u64 d.s.z0) := hcd 12 (by omega); have c13 : wx.cell? ⟨gd, j * 16 + 13, none⟩ = some (.int .u64 d.s.z1) := hcd 13 (by omega); have c14 : wx.cell? ⟨gd, j * 16 + 14, none⟩ = some (.int .u64 d.s.z2) := hcd 14 (by omega); have c15 : wx.cell? ⟨gd, j * 16 + 15, none⟩ = some (.int .u64 d.s.z3) := hcd 15 (by omega)
                have HDM := Lib.hid (List.mem_of_getElem? hd)
                clear hcd hd
                go_wp2_with fail
                refine (submit_done (HKX.out.chg0 (by repeat (with_reducible first | exact Chg.refl _ _ | refine Chg.setCell ?_ (Or.inr (Nat.le_refl _)) _ | apply Chg.drew | apply Chg.drewN | apply Chg.alloc))) HDM.out).mono ?_
                rintro e w5 ⟨rfl, hC5⟩
                have hloc := hC5.has (has_alloc_new wx (.cells #[.int .i64 0, .int .i64 d.id, .string d.m, .int .u64 d.s.x0, .int .u64 d.s.x1, .int .u64 d.s.x2, .int .u64 d.s.x3, .int .u64 d.s.y0, .int .u64 d.s.y1, .int .u64 d.s.y2, .int .u64 d.s.y3, .bool d.s.inf, .int .u64 d.s.z0, .int .u64 d.s.z1, .int .u64 d.s.z2, .int .u64 d.s.z3] 44)) (by simp)
                have hC5' : Chg [] wx w5 := Chg.trans (by repeat (with_reducible first | exact Chg.refl _ _ | refine Chg.setCell ?_ (Or.inr (Nat.le_refl _)) _ | apply Chg.drew | apply Chg.drewN | apply Chg.alloc)) hC5
                have hll := lt_of_has hloc
                have f0 : w5.cell? ⟨wx.heap.size, 0, none⟩ = some (.int .i64 0) := cell_of_has hloc 0; have f1 : w5.cell? ⟨wx.heap.size, 1, none⟩ = some (.int .i64 d.id) := cell_of_has hloc 1; have f2 : w5.cell? ⟨wx.heap.size, 2, none⟩ = some (.string d.m) := cell_of_has hloc 2; have f3 : w5.cell? ⟨wx.heap.size, 3, none⟩ = some (.int .u64 d.s.x0) := cell_of_has hloc 3; have f4 : w5.cell? ⟨wx.heap.size, 4, none⟩ = some (.int .u64 d.s.x1) := cell_of_has hloc 4; have f5 : w5.cell? ⟨wx.heap.size, 5, none⟩ = some (.int .u64 d.s.x2) := cell_of_has hloc 5; have f6 : w5.cell? ⟨wx.heap.size, 6, none⟩ = some (.int .u64 d.s.x3) := cell_of_has hloc 6; have f7 : w5.cell? ⟨wx.heap.size, 7, none⟩ = some (.int .u64 d.s.y0) := cell_of_has hloc 7; have f8 : w5.cell? ⟨wx.heap.size, 8, none⟩ = some (.int .u64 d.s.y1) := cell_of_has hloc 8; have f9 : w5.cell? ⟨wx.heap.size, 9, none⟩ = some (.int .u64 d.s.y2) := cell_of_has hloc 9; have f10 : w5.cell? ⟨wx.heap.size, 10, none⟩ = some (.int .u64 d.s.y3) := cell_of_has hloc 10; have f11 : w5.cell? ⟨wx.heap.size, 11, none⟩ = some (.bool d.s.inf) := cell_of_has hloc 11; have f12 : w5.cell? ⟨wx.heap.size, 12, none⟩ = some (.int .u64 d.s.z0) := cell_of_has hloc 12; have f13 : w5.cell? ⟨wx.heap.size, 13, none⟩ = some (.int .u64 d.s.z1) := cell_of_has hloc 13; have f14 : w5.cell? ⟨wx.heap.size, 14, none⟩ = some (.int .u64 d.s.z2) := cell_of_has hloc 14; have f15 : w5.cell? ⟨wx.heap.size, 15, none⟩ = some (.int .u64 d.s.z3) := cell_of_has hloc 15
                have HC5 := Lib.hid hC5'
                clear hC5 hC5' hloc c0 c1 c2 c3 c4 c5 c6 c7 c8 c9 c10 c11 c12 c13 c14 c15
                have q1 := fun w => num_self d.s.x0 d.s.x1 d.s.x2 d.s.x3 9996 w
                have q2 := fun w => num_self d.s.y0 d.s.y1 d.s.y2 d.s.y3 9996 w
                have q3 := fun w => num_self d.s.z0 d.s.z1 d.s.z2 d.s.z3 9997 w
                simp only [Nat.reduceAdd] at q1 q2 q3
                go_wp2_with fail
                refine ⟨⟨j+1, by omega, by go_num, (HCX.out.trans HC5.out).trans (by repeat (with_reducible first | exact Chg.refl _ _ | refine Chg.setCell ?_ (Or.inr (Nat.le_refl _)) _ | apply Chg.drew | apply Chg.drewN | apply Chg.alloc))⟩, by simp [intOf]; omega⟩
              · obtain rfl : D'.length = j := by omega
                go_wp2_with fail
                go_roundg (zs.length - (k + 1))
                case measure => omega
                case rel => exact ⟨k + 1, v', l', D', by omega, by go_num, (by have hh := HKX.out; rw [HN'.out] at hh; exact hh), by omega, by omega, HC4.out.trans HCX.out⟩
    · obtain rfl : zs.length = k := by omega
      have HCR := Lib.hid hCr
      clear hKp hCr
      go_wp2_with fail
      refine (law22_four _).mono ?_
      rintro e w3 ⟨rfl, hC3⟩
      go_wp2_with fail
      go_ret
      exact ⟨rfl, (HCR.out.trans hC3).below⟩

end Go.Proofs.Ytgiackgdceanhaa
