/- QueueSteps: what waits, side by side. -/
import Derived.Test.YtgiackgdceanhaaQueueQ
namespace Go.Proofs.Ytgiackgdceanhaa
set_option linter.unusedVariables false
set_option linter.unusedSimpArgs false
open Go.RowKit

theorem pend_take {l : List Ent} {j : Nat} {e : Ent} (h : l[j]? = some e) (hd : e.done = false) : (pend l)[(pend (l.take j)).length]? = some e := by
  have e1 : pend l = pend (l.take j) ++ e :: pend (l.drop (j + 1)) := by
    conv => lhs; rw [split_at h]
    unfold pend
    rw [List.filter_append, List.filter_cons]
    simp [hd]
  rw [e1]; simp

theorem pend_succ {l : List Ent} {j : Nat} {e : Ent} (h : l[j]? = some e) : (pend (l.take (j + 1))).length = (pend (l.take j)).length + (if e.done = true then 0 else 1) := by
  rw [take_succ_some h]
  unfold pend
  rw [List.filter_append, List.filter_cons]
  cases hd : e.done <;> simp

set_option maxRecDepth 100000 in
set_option maxHeartbeats 8000000 in
theorem law_same (base u b2 : Nat) (rv nv : Value) (l : List Ent) (w : World) (hR : RQ w base u rv l) (hl : l.length ≤ 1000000) (hv : w.ownsRow b2 36 2 nv (waits l).length (reqCells (pend l))) :
    Calls Try.prog 35 #[nv, .pointer (some ⟨u, 0, none⟩)] w fun e w' => e = .returned (.bool true) ∧ Chg [] w w' := by
  obtain ⟨a, cap, rfl⟩ := own_shape hR.hv
  obtain ⟨a2, cap2, rfl⟩ := own_shape hv
  have c0 : w.cell? ⟨u, 0, none⟩ = some (.slice a l.length cap) := cell_of_has hR.hq 0
  have hul := lt_of_has hR.hq
  obtain ⟨n, hnn⟩ : ∃ n, l.length = n := ⟨_, rfl⟩
  have hpl : (pend l).length = (waits l).length := by simp [waits_pend]
  obtain ⟨k, hk⟩ : ∃ k, (waits l).length = k := ⟨_, rfl⟩
  have hkl : k ≤ 1000000 := by
    have := waits_len_le l
    omega
  rw [hk] at hv hpl
  rw [hk]
  have HR := Lib.hid hR; have HN := Lib.hid hnn; have HV := Lib.hid hv; have HPL := Lib.hid hpl
  rw [hnn] at c0 hl
  clear hR hnn hv hpl hk
  go_enter Try.func35, Try.ntmps35
  go_wp2_with fail
  go_loopw [5, 13] (fun c i wr => ∃ j : Nat, j ≤ n ∧ i = .int .i64 j ∧ c = .int .i64 (pend (l.take j)).length ∧ (pend (l.take j)).length ≤ j ∧ Chg [] w wr) (fun _ i _ => n - (intOf i).toNat)
  case atStart => exact ⟨0, by omega, rfl, rfl, by simp [pend], Chg.refl _ _⟩
  case round =>
    obtain ⟨j, hj, rfl, rfl, hle, hC⟩ := hrel
    have HC := Lib.hid hC
    by_cases hlt : j < n
    · obtain ⟨e, he⟩ : ∃ e, l[j]? = some e := ⟨_, List.getElem?_eq_getElem (by rw [HN.out]; exact hlt)⟩
      have hown := (HR.out.chg0 hC).hv
      rw [HN.out] at hown
      obtain ⟨g, rfl, hg, hcd⟩ := own_one hown he
      have hHE := Lib.hid he
      have k0 : wr.cell? ⟨g, j * 16, none⟩ = some (.int .i64 e.id) := hcd 0 (by omega); have k1 : wr.cell? ⟨g, j * 16 + 1, none⟩ = some (.string e.m) := hcd 1 (by omega); have k2 : wr.cell? ⟨g, j * 16 + 2, none⟩ = some (.bool e.done) := hcd 2 (by omega); have k3 : wr.cell? ⟨g, j * 16 + 3, none⟩ = some (.int .u64 e.s.x0) := hcd 3 (by omega); have k4 : wr.cell? ⟨g, j * 16 + 4, none⟩ = some (.int .u64 e.s.x1) := hcd 4 (by omega); have k5 : wr.cell? ⟨g, j * 16 + 5, none⟩ = some (.int .u64 e.s.x2) := hcd 5 (by omega); have k6 : wr.cell? ⟨g, j * 16 + 6, none⟩ = some (.int .u64 e.s.x3) := hcd 6 (by omega); have k7 : wr.cell? ⟨g, j * 16 + 7, none⟩ = some (.int .u64 e.s.y0) := hcd 7 (by omega); have k8 : wr.cell? ⟨g, j * 16 + 8, none⟩ = some (.int .u64 e.s.y1) := hcd 8 (by omega); have k9 : wr.cell? ⟨g, j * 16 + 9, none⟩ = some (.int .u64 e.s.y2) := hcd 9 (by omega); have k10 : wr.cell? ⟨g, j * 16 + 10, none⟩ = some (.int .u64 e.s.y3) := hcd 10 (by omega); have k11 : wr.cell? ⟨g, j * 16 + 11, none⟩ = some (.bool e.s.inf) := hcd 11 (by omega); have k12 : wr.cell? ⟨g, j * 16 + 12, none⟩ = some (.int .u64 e.s.z0) := hcd 12 (by omega); have k13 : wr.cell? ⟨g, j * 16 + 13, none⟩ = some (.int .u64 e.s.z1) := hcd 13 (by omega); have k14 : wr.cell? ⟨g, j * 16 + 14, none⟩ = some (.int .u64 e.s.z2) := hcd 14 (by omega); have k15 : wr.cell? ⟨g, j * 16 + 15, none⟩ = some (.int .u64 e.s.z3) := hcd 15 (by omega)
      have hts := pend_succ he
      have hpt := fun hd => pend_take he hd
      have HPT := Lib.hid hpt
      generalize (pend (l.take j)).length = x at *
      have HTS := Lib.hid hts
      clear hcd he hown hC hts hpt
      go_upto_region 5 with fail
      obtain ⟨W1, hW1⟩ : ∃ W1, wr.alloc (.cells #[.int .i64 e.id, .string e.m, .bool e.done, .int .u64 e.s.x0, .int .u64 e.s.x1, .int .u64 e.s.x2, .int .u64 e.s.x3, .int .u64 e.s.y0, .int .u64 e.s.y1, .int .u64 e.s.y2, .int .u64 e.s.y3, .bool e.s.inf, .int .u64 e.s.z0, .int .u64 e.s.z1, .int .u64 e.s.z2, .int .u64 e.s.z3] 85) = W1 := ⟨_, rfl⟩
      rw [hW1]
      have hC1 : Chg [] w W1 := by rw [← hW1]; exact HC.out.alloc _
      have hq1 : W1.heap[wr.heap.size]? = some (.cells #[.int .i64 e.id, .string e.m, .bool e.done, .int .u64 e.s.x0, .int .u64 e.s.x1, .int .u64 e.s.x2, .int .u64 e.s.x3, .int .u64 e.s.y0, .int .u64 e.s.y1, .int .u64 e.s.y2, .int .u64 e.s.y3, .bool e.s.inf, .int .u64 e.s.z0, .int .u64 e.s.z1, .int .u64 e.s.z2, .int .u64 e.s.z3] 85 (0, 0)) := by rw [← hW1]; exact has_alloc_new _ _
      clear k0 k1 k2 k3 k4 k5 k6 k7 k8 k9 k10 k11 k12 k13 k14 k15 c0
      have f0 : W1.cell? ⟨wr.heap.size, 0, none⟩ = some (.int .i64 e.id) := cell_of_has hq1 0; have f1 : W1.cell? ⟨wr.heap.size, 1, none⟩ = some (.string e.m) := cell_of_has hq1 1; have f2 : W1.cell? ⟨wr.heap.size, 2, none⟩ = some (.bool e.done) := cell_of_has hq1 2; have f3 : W1.cell? ⟨wr.heap.size, 3, none⟩ = some (.int .u64 e.s.x0) := cell_of_has hq1 3; have f4 : W1.cell? ⟨wr.heap.size, 4, none⟩ = some (.int .u64 e.s.x1) := cell_of_has hq1 4; have f5 : W1.cell? ⟨wr.heap.size, 5, none⟩ = some (.int .u64 e.s.x2) := cell_of_has hq1 5; have f6 : W1.cell? ⟨wr.heap.size, 6, none⟩ = some (.int .u64 e.s.x3) := cell_of_has hq1 6; have f7 : W1.cell? ⟨wr.heap.size, 7, none⟩ = some (.int .u64 e.s.y0) := cell_of_has hq1 7; have f8 : W1.cell? ⟨wr.heap.size, 8, none⟩ = some (.int .u64 e.s.y1) := cell_of_has hq1 8; have f9 : W1.cell? ⟨wr.heap.size, 9, none⟩ = some (.int .u64 e.s.y2) := cell_of_has hq1 9; have f10 : W1.cell? ⟨wr.heap.size, 10, none⟩ = some (.int .u64 e.s.y3) := cell_of_has hq1 10; have f11 : W1.cell? ⟨wr.heap.size, 11, none⟩ = some (.bool e.s.inf) := cell_of_has hq1 11; have f12 : W1.cell? ⟨wr.heap.size, 12, none⟩ = some (.int .u64 e.s.z0) := cell_of_has hq1 12; have f13 : W1.cell? ⟨wr.heap.size, 13, none⟩ = some (.int .u64 e.s.z1) := cell_of_has hq1 13; have f14 : W1.cell? ⟨wr.heap.size, 14, none⟩ = some (.int .u64 e.s.z2) := cell_of_has hq1 14; have f15 : W1.cell? ⟨wr.heap.size, 15, none⟩ = some (.int .u64 e.s.z3) := cell_of_has hq1 15
      have HC1 := Lib.hid hC1
      clear hC1 hq1 hW1
      cases hd : e.done
      · rw [hd] at f2
        have hx := HPT.out hd
        have hxl : x < (pend l).length := (List.getElem?_eq_some_iff.1 hx).1
        have hxe : (pend l)[x] = e := (List.getElem?_eq_some_iff.1 hx).2
        obtain ⟨gn, rfl, hgn, hy1, hy2⟩ := own_req (own_chg HV.out HC1.out (by simp)) hxl hxe
        rw [HPL.out] at hxl
        have HD := Lib.hid hd
        clear hd hx hxe
        have t1 : decide ((k : Int) ≤ (x : Int)) = false := by simp; omega
        have t2 : (e.id != e.id) = false := by simp
        have t3 : (e.m.toList != e.m.toList) = false := by simp
        go_wp2_with fail
        go_quiet (fail)
        go_wp2_with fail
        refine ⟨⟨j+1, by omega, by go_num, ?_, ?_, HC1.out.drewN _⟩, by simp [intOf]; omega⟩
        · rw [HTS.out, HD.out]; go_num
        · rw [HTS.out, HD.out]; simp; omega
      · rw [hd] at f2
        have HD := Lib.hid hd
        clear hd
        go_wp2_with fail
        refine ⟨⟨j+1, by omega, by go_num, ?_, ?_, HC1.out⟩, by simp [intOf]; omega⟩
        · rw [HTS.out, HD.out]; rfl
        · rw [HTS.out, HD.out]; simp; omega
    · obtain rfl : n = j := by omega
      have ht : l.take n = l := List.take_of_length_le (by rw [HN.out]; exact Nat.le_refl _)
      rw [ht, HPL.out]
      go_wp2_with fail
      go_ret
      exact ⟨by simp, hC⟩

end Go.Proofs.Ytgiackgdceanhaa
