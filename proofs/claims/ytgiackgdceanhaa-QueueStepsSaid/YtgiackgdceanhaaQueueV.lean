/- QueueSteps: the walk of the law. -/
import Derived.Test.YtgiackgdceanhaaQueueU
import Derived.Deep.RegionHeld3
namespace Go.Proofs.Ytgiackgdceanhaa
set_option linter.unusedVariables false
set_option linter.unusedSimpArgs false
open Go.RowKit

theorem bo_keep_q {w0 w w' : World} {base q r u : Nat} {v rv : Value} {l lr : List Ent} (h0 : Bo w0 base q r u v rv l lr) {b : Nat} {cs : Array Value}
    (hb0 : w0.heap[b]? = some (.cells cs 44 (0, 0))) (h1 : Chg [] w0 w) (hC : Chg (qSet q r v l) w w') : w'.heap[b]? = some (.cells cs 44 (0, 0)) := by
  have h := h0.chg0 h1
  have hb := h1.has hb0 (by simp)
  obtain ⟨f1, f2, f3, f4, f5, f6⟩ := h.far hb (by decide) (by decide) (by decide) (by decide) (by decide)
  refine hC.has hb (fun hm => ?_)
  rcases mem_qSet hm with h | h | h | ⟨e, he, h⟩
  · exact f1 h
  · exact f2 h
  · exact f3 h
  · exact f4 e he h
theorem bo_keep_r {w0 w w' : World} {base q r u : Nat} {v rv : Value} {l lr : List Ent} (h0 : Bo w0 base q r u v rv l lr) {b : Nat} {cs : Array Value}
    (hb0 : w0.heap[b]? = some (.cells cs 44 (0, 0))) (h1 : Chg [] w0 w) (hC : Chg (u :: rv.ownBlock.toList) w w') : w'.heap[b]? = some (.cells cs 44 (0, 0)) := by
  have h := h0.chg0 h1
  have hb := h1.has hb0 (by simp)
  obtain ⟨f1, f2, f3, f4, f5, f6⟩ := h.far hb (by decide) (by decide) (by decide) (by decide) (by decide)
  refine hC.has hb (fun hm => ?_)
  rcases List.mem_cons.1 hm with h | h
  · exact f5 h
  · exact f6 (Option.mem_toList.1 h)
theorem bo_w_q {W w0 w w' : World} {q r u : Nat} {v rv : Value} {l lr : List Ent} (h0 : Chg [] W w0) (h1 : Chg [] w0 w) (h : Bo w0 W.heap.size q r u v rv l lr) (hC : Chg (qSet q r v l) w w') : Chg [] W w' :=
  (h0.trans h1).trans_new hC (fun y hy => Or.inr (qSet_base h.hQ y hy))
theorem bo_w_r {W w0 w w' : World} {q r u : Nat} {v rv : Value} {l lr : List Ent} (h0 : Chg [] W w0) (h1 : Chg [] w0 w) (h : Bo w0 W.heap.size q r u v rv l lr) (hC : Chg (u :: rv.ownBlock.toList) w w') : Chg [] W w' :=
  (h0.trans h1).trans_new hC (by
    intro y hy
    rcases List.mem_cons.1 hy with e | e
    · subst e; exact Or.inr h.hR.hb
    · exact Or.inr (h.hR.hv.lt y (Option.mem_toList.1 e)).1)

set_option maxRecDepth 100000 in
set_option maxHeartbeats 8000000 in
theorem steps_main (a : Option Addr) (cap : Nat) (zs : List St) (W : World) (hR : ReadsS W a zs) (hz : zs.length ≤ 300) :
    Calls Try.prog 10 #[.slice a zs.length cap] W fun e w' => e = .returned (.bool true) ∧ Below W.heap.size W w' := by
  have HR := Lib.hid hR; clear hR
  go_enter Try.func10, Try.ntmps10
  go_wp2_with fail
  refine (queue_new _).mono ?_
  rintro e w1 ⟨q, r, rfl, hq, hQ, hC⟩
  have HC := Lib.hid hC
  have HQ := Lib.hid hQ
  have hs1 := hC.size
  clear hQ hC
  go_wp2_with fail
  obtain ⟨u, hu⟩ : ∃ u, w1.heap.size = u := ⟨_, rfl⟩
  have HU := Lib.hid hu
  rw [hu] at hs1 ⊢
  clear hu
  go_loopg [35] zs.length (fun gk i wr => ∃ (k : Nat) (v rv : Value) (l : List Ent), gk + k = zs.length ∧ i = .int .i64 k ∧ Bo wr W.heap.size q r u v rv l l ∧ l.length ≤ k ∧ Chg [] W wr)
  case atStart =>
    refine ⟨0, _, .slice none 0 0, [], rfl, rfl, ⟨HQ.out.chg0 ((Chg.refl _ _).alloc _), has_alloc_at HU.out, World.ownsRow_nil _ _ _ _, ?_⟩, by simp, HC.out.alloc _⟩
    have := HU.out; omega
  case round =>
    obtain ⟨k, v, rv, l, hk, rfl, hB, hlk, hCr⟩ := hrel
    by_cases hlt : k < zs.length
    · obtain ⟨b, off, hae, hb, hcell0⟩ := (HR.out.chg hCr (by simp)) (by omega)
      obtain ⟨x, hx⟩ : ∃ x, zs[k]? = some x := ⟨zs[k], List.getElem?_eq_getElem hlt⟩
      have hcell := hcell0 k x hx
      subst hae
      have HB := Lib.hid hB; have HCR := Lib.hid hCr
      have g0 : wr.cell? ⟨b, off + k * 16, none⟩ = some (.int .i64 x.what) := hcell 0 (by omega); have g1 : wr.cell? ⟨b, off + k * 16 + 1, none⟩ = some (.int .i64 x.id) := hcell 1 (by omega); have g2 : wr.cell? ⟨b, off + k * 16 + 2, none⟩ = some (.string x.m) := hcell 2 (by omega); have g3 : wr.cell? ⟨b, off + k * 16 + 3, none⟩ = some (.int .u64 x.s.x0) := hcell 3 (by omega); have g4 : wr.cell? ⟨b, off + k * 16 + 4, none⟩ = some (.int .u64 x.s.x1) := hcell 4 (by omega); have g5 : wr.cell? ⟨b, off + k * 16 + 5, none⟩ = some (.int .u64 x.s.x2) := hcell 5 (by omega); have g6 : wr.cell? ⟨b, off + k * 16 + 6, none⟩ = some (.int .u64 x.s.x3) := hcell 6 (by omega); have g7 : wr.cell? ⟨b, off + k * 16 + 7, none⟩ = some (.int .u64 x.s.y0) := hcell 7 (by omega); have g8 : wr.cell? ⟨b, off + k * 16 + 8, none⟩ = some (.int .u64 x.s.y1) := hcell 8 (by omega); have g9 : wr.cell? ⟨b, off + k * 16 + 9, none⟩ = some (.int .u64 x.s.y2) := hcell 9 (by omega); have g10 : wr.cell? ⟨b, off + k * 16 + 10, none⟩ = some (.int .u64 x.s.y3) := hcell 10 (by omega); have g11 : wr.cell? ⟨b, off + k * 16 + 11, none⟩ = some (.bool x.s.inf) := hcell 11 (by omega); have g12 : wr.cell? ⟨b, off + k * 16 + 12, none⟩ = some (.int .u64 x.s.z0) := hcell 12 (by omega); have g13 : wr.cell? ⟨b, off + k * 16 + 13, none⟩ = some (.int .u64 x.s.z1) := hcell 13 (by omega); have g14 : wr.cell? ⟨b, off + k * 16 + 14, none⟩ = some (.int .u64 x.s.z2) := hcell 14 (by omega); have g15 : wr.cell? ⟨b, off + k * 16 + 15, none⟩ = some (.int .u64 x.s.z3) := hcell 15 (by omega)
      clear hB hCr hcell0 hx hcell
      go_upto_region 8 with fail
      obtain ⟨W1, hW1⟩ : ∃ W1, wr.alloc (.cells #[.int .i64 x.what, .int .i64 x.id, .string x.m, .int .u64 x.s.x0, .int .u64 x.s.x1, .int .u64 x.s.x2, .int .u64 x.s.x3, .int .u64 x.s.y0, .int .u64 x.s.y1, .int .u64 x.s.y2, .int .u64 x.s.y3, .bool x.s.inf, .int .u64 x.s.z0, .int .u64 x.s.z1, .int .u64 x.s.z2, .int .u64 x.s.z3] 44) = W1 := ⟨_, rfl⟩
      rw [hW1]
      have hC1 : Chg [] W W1 := by rw [← hW1]; exact HCR.out.alloc _
      have hB1 : Bo W1 W.heap.size q r u v rv l l := by rw [← hW1]; exact HB.out.chg0 ((Chg.refl _ _).alloc _)
      obtain ⟨p, hp⟩ : ∃ p, wr.heap.size = p := ⟨_, rfl⟩
      have hloc : W1.heap[p]? = some (.cells #[.int .i64 x.what, .int .i64 x.id, .string x.m, .int .u64 x.s.x0, .int .u64 x.s.x1, .int .u64 x.s.x2, .int .u64 x.s.x3, .int .u64 x.s.y0, .int .u64 x.s.y1, .int .u64 x.s.y2, .int .u64 x.s.y3, .bool x.s.inf, .int .u64 x.s.z0, .int .u64 x.s.z1, .int .u64 x.s.z2, .int .u64 x.s.z3] 44 (0, 0)) := by rw [← hW1, ← hp]; exact has_alloc_new _ _
      rw [hp]
      clear g0 g1 g2 g3 g4 g5 g6 g7 g8 g9 g10 g11 g12 g13 g14 g15
      have HC1 := Lib.hid hC1; have HB1 := Lib.hid hB1; have HLOC := Lib.hid hloc
      have hll := lt_of_has hloc
      have g0 : W1.cell? ⟨p, 0, none⟩ = some (.int .i64 x.what) := cell_of_has hloc 0; have g1 : W1.cell? ⟨p, 1, none⟩ = some (.int .i64 x.id) := cell_of_has hloc 1; have g2 : W1.cell? ⟨p, 2, none⟩ = some (.string x.m) := cell_of_has hloc 2; have g3 : W1.cell? ⟨p, 3, none⟩ = some (.int .u64 x.s.x0) := cell_of_has hloc 3; have g4 : W1.cell? ⟨p, 4, none⟩ = some (.int .u64 x.s.x1) := cell_of_has hloc 4; have g5 : W1.cell? ⟨p, 5, none⟩ = some (.int .u64 x.s.x2) := cell_of_has hloc 5; have g6 : W1.cell? ⟨p, 6, none⟩ = some (.int .u64 x.s.x3) := cell_of_has hloc 6; have g7 : W1.cell? ⟨p, 7, none⟩ = some (.int .u64 x.s.y0) := cell_of_has hloc 7; have g8 : W1.cell? ⟨p, 8, none⟩ = some (.int .u64 x.s.y1) := cell_of_has hloc 8; have g9 : W1.cell? ⟨p, 9, none⟩ = some (.int .u64 x.s.y2) := cell_of_has hloc 9; have g10 : W1.cell? ⟨p, 10, none⟩ = some (.int .u64 x.s.y3) := cell_of_has hloc 10; have g11 : W1.cell? ⟨p, 11, none⟩ = some (.bool x.s.inf) := cell_of_has hloc 11; have g12 : W1.cell? ⟨p, 12, none⟩ = some (.int .u64 x.s.z0) := cell_of_has hloc 12; have g13 : W1.cell? ⟨p, 13, none⟩ = some (.int .u64 x.s.z1) := cell_of_has hloc 13; have g14 : W1.cell? ⟨p, 14, none⟩ = some (.int .u64 x.s.z2) := cell_of_has hloc 14; have g15 : W1.cell? ⟨p, 15, none⟩ = some (.int .u64 x.s.z3) := cell_of_has hloc 15
      clear hC1 hB1 hloc hW1 hp HB HCR
      go_upto_block 2 with fail
      go_cut [7, 8, 9, 10, 41] (fun _ _ _ _ _ wx => ∃ (v' rv' : Value) (l' : List Ent), Bo wx W.heap.size q r u v' rv' l' l' ∧ l'.length ≤ k + 1 ∧ Chg [] W wx ∧ wx.heap[p]? = some (.cells #[.int .i64 x.what, .int .i64 x.id, .string x.m, .int .u64 x.s.x0, .int .u64 x.s.x1, .int .u64 x.s.x2, .int .u64 x.s.x3, .int .u64 x.s.y0, .int .u64 x.s.y1, .int .u64 x.s.y2, .int .u64 x.s.y3, .bool x.s.inf, .int .u64 x.s.z0, .int .u64 x.s.z1, .int .u64 x.s.z2, .int .u64 x.s.z3] 44 (0, 0)))
      case first =>
        have sub : ∀ (t0 t1 : Bool), (x.what == 0) = t0 → (x.what == 1) = t1 → True := fun _ _ _ _ => trivial
        clear sub
        by_cases hw2 : x.what = 2
        · have t0 : (x.what == 0) = false := by simp [hw2]
          have t1 : (x.what == 1) = false := by simp [hw2]
          have t2 : (x.what == 2) = true := by simp [hw2]
          clear hw2
          have hcf := fun w v rv lr hB => bo_finish (w := w) (v := v) (rv := rv) (lr := lr) (base := W.heap.size) (q := q) (r := r) (u := u) (l := l) x.id x.s hB
          have hcr := fun w v rv lq hB => bo_rfinish (w := w) (v := v) (rv := rv) (lq := lq) (base := W.heap.size) (q := q) (r := r) (u := u) (l := l) x.id x.s hB (by omega) HB1.out.hQ.hn
          have hlen : (finLs l x.id x.s).length = l.length := by unfold finLs; split <;> simp [finL]
          generalize finCode l x.id = cd at hcf hcr
          generalize finLs l x.id x.s = l2 at hcf hcr hlen
          have HBF := Lib.hid hcf; have HBR := Lib.hid hcr; have HLEN := Lib.hid hlen
          have hBo := HB1.out
          have hLo := Lib.hid HLOC.out
          have hCo := Lib.hid HC1.out
          clear hcf hcr hlen
          go_upto_region 16 with fail
          go_region_held3 (fun w' => w'.cell? ⟨p, 1, none⟩ = some (.int .i64 x.id) ∧ w'.cell? ⟨p, 3, none⟩ = some (.int .u64 x.s.x0) ∧ w'.cell? ⟨p, 4, none⟩ = some (.int .u64 x.s.x1) ∧ w'.cell? ⟨p, 5, none⟩ = some (.int .u64 x.s.x2) ∧ w'.cell? ⟨p, 6, none⟩ = some (.int .u64 x.s.x3) ∧ w'.cell? ⟨p, 7, none⟩ = some (.int .u64 x.s.y0) ∧ w'.cell? ⟨p, 8, none⟩ = some (.int .u64 x.s.y1) ∧ w'.cell? ⟨p, 9, none⟩ = some (.int .u64 x.s.y2) ∧ w'.cell? ⟨p, 10, none⟩ = some (.int .u64 x.s.y3) ∧ w'.cell? ⟨p, 11, none⟩ = some (.bool x.s.inf) ∧ w'.cell? ⟨p, 12, none⟩ = some (.int .u64 x.s.z0) ∧ w'.cell? ⟨p, 13, none⟩ = some (.int .u64 x.s.z1) ∧ w'.cell? ⟨p, 14, none⟩ = some (.int .u64 x.s.z2) ∧ w'.cell? ⟨p, 15, none⟩ = some (.int .u64 x.s.z3)) (first | exact ⟨g1, g3, g4, g5, g6, g7, g8, g9, g10, g11, g12, g13, g14, g15⟩ | go_keep) (first | (go_at_call 16; go_loud (refine (HBF.out _ _ _ _ (Bo.chg0 hBo (by repeat (with_reducible first | exact Chg.refl _ _ | refine Chg.setCell ?_ (Or.inr (Nat.le_refl _)) _ | apply Chg.drew | apply Chg.drewN | apply Chg.alloc)))).mono ?_; rintro e w9 ⟨rfl, v9, hB9, hC9⟩; have hL9 := bo_keep_q hBo hLo.out (by repeat (with_reducible first | exact Chg.refl _ _ | refine Chg.setCell ?_ (Or.inr (Nat.le_refl _)) _ | apply Chg.drew | apply Chg.drewN | apply Chg.alloc)) hC9; have hC8 := bo_w_q hCo.out (by repeat (with_reducible first | exact Chg.refl _ _ | refine Chg.setCell ?_ (Or.inr (Nat.le_refl _)) _ | apply Chg.drew | apply Chg.drewN | apply Chg.alloc)) hBo hC9; clear hBo hLo hCo g0 g1 g2 g3 g4 g5 g6 g7 g8 g9 g10 g11 g12 g13 g14 g15; have hBo := hB9; have hLo := hL9; have hCo := Lib.hid hC8; clear hB9 hL9 hC9 hC8; have hll := lt_of_has hLo; have g0 : w9.cell? ⟨p, 0, none⟩ = some (.int .i64 x.what) := cell_of_has hLo 0; have g1 : w9.cell? ⟨p, 1, none⟩ = some (.int .i64 x.id) := cell_of_has hLo 1; have g2 : w9.cell? ⟨p, 2, none⟩ = some (.string x.m) := cell_of_has hLo 2; have g3 : w9.cell? ⟨p, 3, none⟩ = some (.int .u64 x.s.x0) := cell_of_has hLo 3; have g4 : w9.cell? ⟨p, 4, none⟩ = some (.int .u64 x.s.x1) := cell_of_has hLo 4; have g5 : w9.cell? ⟨p, 5, none⟩ = some (.int .u64 x.s.x2) := cell_of_has hLo 5; have g6 : w9.cell? ⟨p, 6, none⟩ = some (.int .u64 x.s.x3) := cell_of_has hLo 6; have g7 : w9.cell? ⟨p, 7, none⟩ = some (.int .u64 x.s.y0) := cell_of_has hLo 7; have g8 : w9.cell? ⟨p, 8, none⟩ = some (.int .u64 x.s.y1) := cell_of_has hLo 8; have g9 : w9.cell? ⟨p, 9, none⟩ = some (.int .u64 x.s.y2) := cell_of_has hLo 9; have g10 : w9.cell? ⟨p, 10, none⟩ = some (.int .u64 x.s.y3) := cell_of_has hLo 10; have g11 : w9.cell? ⟨p, 11, none⟩ = some (.bool x.s.inf) := cell_of_has hLo 11; have g12 : w9.cell? ⟨p, 12, none⟩ = some (.int .u64 x.s.z0) := cell_of_has hLo 12; have g13 : w9.cell? ⟨p, 13, none⟩ = some (.int .u64 x.s.z1) := cell_of_has hLo 13; have g14 : w9.cell? ⟨p, 14, none⟩ = some (.int .u64 x.s.z2) := cell_of_has hLo 14; have g15 : w9.cell? ⟨p, 15, none⟩ = some (.int .u64 x.s.z3) := cell_of_has hLo 15; have hLo := Lib.hid hLo)) | (go_at_call 34; go_loud (refine (HBR.out _ _ _ _ (Bo.chg0 hBo (by repeat (with_reducible first | exact Chg.refl _ _ | refine Chg.setCell ?_ (Or.inr (Nat.le_refl _)) _ | apply Chg.drew | apply Chg.drewN | apply Chg.alloc)))).mono ?_; rintro e w9 ⟨rfl, hB9, hC9⟩; have hL9 := bo_keep_r hBo hLo.out (by repeat (with_reducible first | exact Chg.refl _ _ | refine Chg.setCell ?_ (Or.inr (Nat.le_refl _)) _ | apply Chg.drew | apply Chg.drewN | apply Chg.alloc)) hC9; have hC8 := bo_w_r hCo.out (by repeat (with_reducible first | exact Chg.refl _ _ | refine Chg.setCell ?_ (Or.inr (Nat.le_refl _)) _ | apply Chg.drew | apply Chg.drewN | apply Chg.alloc)) hBo hC9; clear hBo hLo hCo g0 g1 g2 g3 g4 g5 g6 g7 g8 g9 g10 g11 g12 g13 g14 g15; have hBo := hB9; have hLo := hL9; have hCo := Lib.hid hC8; clear hB9 hL9 hC9 hC8; have hll := lt_of_has hLo; have g0 : w9.cell? ⟨p, 0, none⟩ = some (.int .i64 x.what) := cell_of_has hLo 0; have g1 : w9.cell? ⟨p, 1, none⟩ = some (.int .i64 x.id) := cell_of_has hLo 1; have g2 : w9.cell? ⟨p, 2, none⟩ = some (.string x.m) := cell_of_has hLo 2; have g3 : w9.cell? ⟨p, 3, none⟩ = some (.int .u64 x.s.x0) := cell_of_has hLo 3; have g4 : w9.cell? ⟨p, 4, none⟩ = some (.int .u64 x.s.x1) := cell_of_has hLo 4; have g5 : w9.cell? ⟨p, 5, none⟩ = some (.int .u64 x.s.x2) := cell_of_has hLo 5; have g6 : w9.cell? ⟨p, 6, none⟩ = some (.int .u64 x.s.x3) := cell_of_has hLo 6; have g7 : w9.cell? ⟨p, 7, none⟩ = some (.int .u64 x.s.y0) := cell_of_has hLo 7; have g8 : w9.cell? ⟨p, 8, none⟩ = some (.int .u64 x.s.y1) := cell_of_has hLo 8; have g9 : w9.cell? ⟨p, 9, none⟩ = some (.int .u64 x.s.y2) := cell_of_has hLo 9; have g10 : w9.cell? ⟨p, 10, none⟩ = some (.int .u64 x.s.y3) := cell_of_has hLo 10; have g11 : w9.cell? ⟨p, 11, none⟩ = some (.bool x.s.inf) := cell_of_has hLo 11; have g12 : w9.cell? ⟨p, 12, none⟩ = some (.int .u64 x.s.z0) := cell_of_has hLo 12; have g13 : w9.cell? ⟨p, 13, none⟩ = some (.int .u64 x.s.z1) := cell_of_has hLo 13; have g14 : w9.cell? ⟨p, 14, none⟩ = some (.int .u64 x.s.z2) := cell_of_has hLo 14; have g15 : w9.cell? ⟨p, 15, none⟩ = some (.int .u64 x.s.z3) := cell_of_has hLo 15; have hLo := Lib.hid hLo)))
          all_goals
            clear g0 g1 g2 g3 g4 g5 g6 g7 g8 g9 g10 g11 g12 g13 g14 g15
            go_wp2_with fail
            go_meet
            exact ⟨_, _, _, hBo, by rw [HLEN.out]; omega, hCo.out, hLo.out⟩
        · by_cases hw : x.what = 0 ∨ x.what = 1
          · have t2 : (x.what == 2) = false := by simp [hw2]
            rcases hw with hw | hw
            · have t0 : (x.what == 0) = true := by simp [hw]
              clear hw hw2
              as_aux_lemma =>
              have hsub := bo_submit x.id x.m HB1.out
              have hrs := fun w v' b hB => bo_rsubmit (w := w) (v := v') (b := b) (rv := rv) (lq := subL l x.id x.m b) x.id x.m (base := W.heap.size) (q := q) (r := r) (u := u) (l := l) hB (by omega) HB1.out.hQ.hn HB1.out.hQ.h8 rfl
              generalize subCode l x.id x.m = cd at hsub hrs
              generalize subSig l x.id x.m = sg at hsub hrs
              have HRS := Lib.hid hrs
              clear hrs
              go_wp2_with fail
              refine hsub.mono ?_
              rintro e w2 ⟨rfl, v', b2, hB2, hC2⟩
              obtain ⟨f1, f2, f3, f4, f5, f6⟩ := HB1.out.far HLOC.out (by decide) (by decide) (by decide) (by decide) (by decide)
              have hl2 := hC2.has HLOC.out (by
                intro hm
                rcases mem_qSet hm with h | h | h | ⟨e, he, h⟩
                · exact f1 h
                · exact f2 h
                · exact f3 h
                · exact f4 e he h)
              have hCW2 : Chg [] W w2 := HC1.out.trans_new hC2 (fun y hy => Or.inr (qSet_base HB1.out.hQ y hy))
              have hsl : (subL l x.id x.m b2).length ≤ l.length + 1 := by
                rcases subL_cases l x.id x.m b2 with ⟨_, _, _, _, hl⟩ | ⟨hl, _⟩
                · rw [hl]; simp
                · rw [hl]; omega
              have HB2 := Lib.hid hB2; have HCW2 := Lib.hid hCW2; have HL2 := Lib.hid hl2; have HSL := Lib.hid hsl
              clear hB2 hC2 hCW2 hl2 hsl f1 f2 f3 f4 f5 f6 hsub
              clear g0 g1 g2 g3 g4 g5 g6 g7 g8 g9 g10 g11 g12 g13 g14 g15
              go_upto_region 12 with fail
              obtain ⟨W3, hW3⟩ : ∃ W3, w2.alloc (.cells #[.int .u64 sg.x0, .int .u64 sg.x1, .int .u64 sg.x2, .int .u64 sg.x3, .int .u64 sg.y0, .int .u64 sg.y1, .int .u64 sg.y2, .int .u64 sg.y3, .bool sg.inf, .int .u64 sg.z0, .int .u64 sg.z1, .int .u64 sg.z2, .int .u64 sg.z3] 32) = W3 := ⟨_, rfl⟩
              rw [hW3]
              have hC3 : Chg [] w2 W3 := by rw [← hW3]; exact (Chg.refl _ _).alloc _
              have hg3 : W3.heap[w2.heap.size]? = some (.cells #[.int .u64 sg.x0, .int .u64 sg.x1, .int .u64 sg.x2, .int .u64 sg.x3, .int .u64 sg.y0, .int .u64 sg.y1, .int .u64 sg.y2, .int .u64 sg.y3, .bool sg.inf, .int .u64 sg.z0, .int .u64 sg.z1, .int .u64 sg.z2, .int .u64 sg.z3] 32 (0, 0)) := by rw [← hW3]; exact has_alloc_new _ _
              obtain ⟨ps, hps⟩ : ∃ ps, w2.heap.size = ps := ⟨_, rfl⟩
              rw [hps] at hg3 ⊢
              have hl3 := hC3.has HL2.out (by simp)
              have e1 : W3.cell? ⟨p, 1, none⟩ = some (.int .i64 x.id) := cell_of_has hl3 1
              have e2 : W3.cell? ⟨p, 2, none⟩ = some (.string x.m) := cell_of_has hl3 2
              have HB3 := Lib.hid (HB2.out.chg0 hC3); have HCW3 := Lib.hid (HCW2.out.trans hC3); have HL3 := Lib.hid hl3; have HG3 := Lib.hid hg3
              clear hC3 hl3 hg3 hW3 hps HB2 HCW2 HL2
              go_wp2_with fail
              refine (HRS.out _ _ _ HB3.out).mono ?_
              rintro e w4 ⟨rfl, rv', hB4, hC4⟩
              obtain ⟨f1, f2, f3, f4, f5, f6⟩ := HB3.out.far HL3.out (by decide) (by decide) (by decide) (by decide) (by decide)
              obtain ⟨f7, f8, f9, f10, f11, f12⟩ := HB3.out.far HG3.out (by decide) (by decide) (by decide) (by decide) (by decide)
              have hl4 := hC4.has HL3.out (by
                intro hm
                rcases List.mem_cons.1 hm with h | h
                · exact f5 h
                · exact f6 (Option.mem_toList.1 h))
              have hg4 := hC4.has HG3.out (by
                intro hm
                rcases List.mem_cons.1 hm with h | h
                · exact f11 h
                · exact f12 (Option.mem_toList.1 h))
              have hCW4 : Chg [] W w4 := HCW3.out.trans_new hC4 (by
                intro y hy
                rcases List.mem_cons.1 hy with h | h
                · subst h; exact Or.inr HB3.out.hR.hb
                · exact Or.inr (HB3.out.hR.hv.lt y (Option.mem_toList.1 h)).1)
              have HB4 := Lib.hid hB4; have HCW4 := Lib.hid hCW4; have HL4 := Lib.hid hl4; have HG4 := Lib.hid hg4
              clear hB4 hC4 hCW4 hl4 hg4 f1 f2 f3 f4 f5 f6 f7 f8 f9 f10 f11 f12 e1 e2 HB3 HCW3 HL3 HG3
              go_upto_region 13 with fail
              obtain ⟨W5, hW5⟩ : ∃ W5, w4.alloc (.cells #[.int .u64 sg.x0, .int .u64 sg.x1, .int .u64 sg.x2, .int .u64 sg.x3, .int .u64 sg.y0, .int .u64 sg.y1, .int .u64 sg.y2, .int .u64 sg.y3, .bool sg.inf, .int .u64 sg.z0, .int .u64 sg.z1, .int .u64 sg.z2, .int .u64 sg.z3] 32) = W5 := ⟨_, rfl⟩
              rw [hW5]
              have hC5 : Chg [] w4 W5 := by rw [← hW5]; exact (Chg.refl _ _).alloc _
              have hh5 : W5.heap[w4.heap.size]? = some (.cells #[.int .u64 sg.x0, .int .u64 sg.x1, .int .u64 sg.x2, .int .u64 sg.x3, .int .u64 sg.y0, .int .u64 sg.y1, .int .u64 sg.y2, .int .u64 sg.y3, .bool sg.inf, .int .u64 sg.z0, .int .u64 sg.z1, .int .u64 sg.z2, .int .u64 sg.z3] 32 (0, 0)) := by rw [← hW5]; exact has_alloc_new _ _
              have hg5 := hC5.has HG4.out (by simp)
              have hh5c0 : W5.cell? ⟨w4.heap.size, 0, none⟩ = some (.int .u64 sg.x0) := cell_of_has hh5 0; have hh5z0 : W5.frozen? ⟨w4.heap.size, 0, none⟩ = false := frozen_of_has hh5 0; have hh5c1 : W5.cell? ⟨w4.heap.size, 1, none⟩ = some (.int .u64 sg.x1) := cell_of_has hh5 1; have hh5z1 : W5.frozen? ⟨w4.heap.size, 1, none⟩ = false := frozen_of_has hh5 1; have hh5c2 : W5.cell? ⟨w4.heap.size, 2, none⟩ = some (.int .u64 sg.x2) := cell_of_has hh5 2; have hh5z2 : W5.frozen? ⟨w4.heap.size, 2, none⟩ = false := frozen_of_has hh5 2; have hh5c3 : W5.cell? ⟨w4.heap.size, 3, none⟩ = some (.int .u64 sg.x3) := cell_of_has hh5 3; have hh5z3 : W5.frozen? ⟨w4.heap.size, 3, none⟩ = false := frozen_of_has hh5 3; have hh5c4 : W5.cell? ⟨w4.heap.size, 4, none⟩ = some (.int .u64 sg.y0) := cell_of_has hh5 4; have hh5z4 : W5.frozen? ⟨w4.heap.size, 4, none⟩ = false := frozen_of_has hh5 4; have hh5c5 : W5.cell? ⟨w4.heap.size, 5, none⟩ = some (.int .u64 sg.y1) := cell_of_has hh5 5; have hh5z5 : W5.frozen? ⟨w4.heap.size, 5, none⟩ = false := frozen_of_has hh5 5; have hh5c6 : W5.cell? ⟨w4.heap.size, 6, none⟩ = some (.int .u64 sg.y2) := cell_of_has hh5 6; have hh5z6 : W5.frozen? ⟨w4.heap.size, 6, none⟩ = false := frozen_of_has hh5 6; have hh5c7 : W5.cell? ⟨w4.heap.size, 7, none⟩ = some (.int .u64 sg.y3) := cell_of_has hh5 7; have hh5z7 : W5.frozen? ⟨w4.heap.size, 7, none⟩ = false := frozen_of_has hh5 7; have hh5c8 : W5.cell? ⟨w4.heap.size, 8, none⟩ = some (.bool sg.inf) := cell_of_has hh5 8; have hh5z8 : W5.frozen? ⟨w4.heap.size, 8, none⟩ = false := frozen_of_has hh5 8; have hh5c9 : W5.cell? ⟨w4.heap.size, 9, none⟩ = some (.int .u64 sg.z0) := cell_of_has hh5 9; have hh5z9 : W5.frozen? ⟨w4.heap.size, 9, none⟩ = false := frozen_of_has hh5 9; have hh5c10 : W5.cell? ⟨w4.heap.size, 10, none⟩ = some (.int .u64 sg.z1) := cell_of_has hh5 10; have hh5z10 : W5.frozen? ⟨w4.heap.size, 10, none⟩ = false := frozen_of_has hh5 10; have hh5c11 : W5.cell? ⟨w4.heap.size, 11, none⟩ = some (.int .u64 sg.z2) := cell_of_has hh5 11; have hh5z11 : W5.frozen? ⟨w4.heap.size, 11, none⟩ = false := frozen_of_has hh5 11; have hh5c12 : W5.cell? ⟨w4.heap.size, 12, none⟩ = some (.int .u64 sg.z3) := cell_of_has hh5 12; have hh5z12 : W5.frozen? ⟨w4.heap.size, 12, none⟩ = false := frozen_of_has hh5 12
              have hg5c0 : W5.cell? ⟨ps, 0, none⟩ = some (.int .u64 sg.x0) := cell_of_has hg5 0; have hg5z0 : W5.frozen? ⟨ps, 0, none⟩ = false := frozen_of_has hg5 0; have hg5c1 : W5.cell? ⟨ps, 1, none⟩ = some (.int .u64 sg.x1) := cell_of_has hg5 1; have hg5z1 : W5.frozen? ⟨ps, 1, none⟩ = false := frozen_of_has hg5 1; have hg5c2 : W5.cell? ⟨ps, 2, none⟩ = some (.int .u64 sg.x2) := cell_of_has hg5 2; have hg5z2 : W5.frozen? ⟨ps, 2, none⟩ = false := frozen_of_has hg5 2; have hg5c3 : W5.cell? ⟨ps, 3, none⟩ = some (.int .u64 sg.x3) := cell_of_has hg5 3; have hg5z3 : W5.frozen? ⟨ps, 3, none⟩ = false := frozen_of_has hg5 3; have hg5c4 : W5.cell? ⟨ps, 4, none⟩ = some (.int .u64 sg.y0) := cell_of_has hg5 4; have hg5z4 : W5.frozen? ⟨ps, 4, none⟩ = false := frozen_of_has hg5 4; have hg5c5 : W5.cell? ⟨ps, 5, none⟩ = some (.int .u64 sg.y1) := cell_of_has hg5 5; have hg5z5 : W5.frozen? ⟨ps, 5, none⟩ = false := frozen_of_has hg5 5; have hg5c6 : W5.cell? ⟨ps, 6, none⟩ = some (.int .u64 sg.y2) := cell_of_has hg5 6; have hg5z6 : W5.frozen? ⟨ps, 6, none⟩ = false := frozen_of_has hg5 6; have hg5c7 : W5.cell? ⟨ps, 7, none⟩ = some (.int .u64 sg.y3) := cell_of_has hg5 7; have hg5z7 : W5.frozen? ⟨ps, 7, none⟩ = false := frozen_of_has hg5 7; have hg5c8 : W5.cell? ⟨ps, 8, none⟩ = some (.bool sg.inf) := cell_of_has hg5 8; have hg5z8 : W5.frozen? ⟨ps, 8, none⟩ = false := frozen_of_has hg5 8; have hg5c9 : W5.cell? ⟨ps, 9, none⟩ = some (.int .u64 sg.z0) := cell_of_has hg5 9; have hg5z9 : W5.frozen? ⟨ps, 9, none⟩ = false := frozen_of_has hg5 9; have hg5c10 : W5.cell? ⟨ps, 10, none⟩ = some (.int .u64 sg.z1) := cell_of_has hg5 10; have hg5z10 : W5.frozen? ⟨ps, 10, none⟩ = false := frozen_of_has hg5 10; have hg5c11 : W5.cell? ⟨ps, 11, none⟩ = some (.int .u64 sg.z2) := cell_of_has hg5 11; have hg5z11 : W5.frozen? ⟨ps, 11, none⟩ = false := frozen_of_has hg5 11; have hg5c12 : W5.cell? ⟨ps, 12, none⟩ = some (.int .u64 sg.z3) := cell_of_has hg5 12; have hg5z12 : W5.frozen? ⟨ps, 12, none⟩ = false := frozen_of_has hg5 12
              have HC5 := Lib.hid hC5
              clear hC5 hh5 hg5 hW5
              have q1 := fun w => num_self sg.x0 sg.x1 sg.x2 sg.x3 9996 w
              have q2 := fun w => num_self sg.y0 sg.y1 sg.y2 sg.y3 9996 w
              have q3 := fun w => num_self sg.z0 sg.z1 sg.z2 sg.z3 9997 w
              simp only [Nat.reduceAdd] at q1 q2 q3
              go_wp2_with fail
              go_meet
              exact ⟨v', rv', _, HB4.out.chg0 HC5.out, by have := HSL.out; omega, HCW4.out.trans HC5.out, HC5.out.has HL4.out (by simp)⟩
            · have t0 : (x.what == 0) = false := by simp [hw]
              have t1 : (x.what == 1) = true := by simp [hw]
              clear hw hw2
              as_aux_lemma =>
              have hsub := bo_submit x.id x.m HB1.out
              have hrs := fun w v' b hB => bo_rsubmit (w := w) (v := v') (b := b) (rv := rv) (lq := subL l x.id x.m b) x.id x.m (base := W.heap.size) (q := q) (r := r) (u := u) (l := l) hB (by omega) HB1.out.hQ.hn HB1.out.hQ.h8 rfl
              generalize subCode l x.id x.m = cd at hsub hrs
              generalize subSig l x.id x.m = sg at hsub hrs
              have HRS := Lib.hid hrs
              clear hrs
              go_wp2_with fail
              refine hsub.mono ?_
              rintro e w2 ⟨rfl, v', b2, hB2, hC2⟩
              obtain ⟨f1, f2, f3, f4, f5, f6⟩ := HB1.out.far HLOC.out (by decide) (by decide) (by decide) (by decide) (by decide)
              have hl2 := hC2.has HLOC.out (by
                intro hm
                rcases mem_qSet hm with h | h | h | ⟨e, he, h⟩
                · exact f1 h
                · exact f2 h
                · exact f3 h
                · exact f4 e he h)
              have hCW2 : Chg [] W w2 := HC1.out.trans_new hC2 (fun y hy => Or.inr (qSet_base HB1.out.hQ y hy))
              have hsl : (subL l x.id x.m b2).length ≤ l.length + 1 := by
                rcases subL_cases l x.id x.m b2 with ⟨_, _, _, _, hl⟩ | ⟨hl, _⟩
                · rw [hl]; simp
                · rw [hl]; omega
              have HB2 := Lib.hid hB2; have HCW2 := Lib.hid hCW2; have HL2 := Lib.hid hl2; have HSL := Lib.hid hsl
              clear hB2 hC2 hCW2 hl2 hsl f1 f2 f3 f4 f5 f6 hsub
              clear g0 g1 g2 g3 g4 g5 g6 g7 g8 g9 g10 g11 g12 g13 g14 g15
              go_upto_region 12 with fail
              obtain ⟨W3, hW3⟩ : ∃ W3, w2.alloc (.cells #[.int .u64 sg.x0, .int .u64 sg.x1, .int .u64 sg.x2, .int .u64 sg.x3, .int .u64 sg.y0, .int .u64 sg.y1, .int .u64 sg.y2, .int .u64 sg.y3, .bool sg.inf, .int .u64 sg.z0, .int .u64 sg.z1, .int .u64 sg.z2, .int .u64 sg.z3] 32) = W3 := ⟨_, rfl⟩
              rw [hW3]
              have hC3 : Chg [] w2 W3 := by rw [← hW3]; exact (Chg.refl _ _).alloc _
              have hg3 : W3.heap[w2.heap.size]? = some (.cells #[.int .u64 sg.x0, .int .u64 sg.x1, .int .u64 sg.x2, .int .u64 sg.x3, .int .u64 sg.y0, .int .u64 sg.y1, .int .u64 sg.y2, .int .u64 sg.y3, .bool sg.inf, .int .u64 sg.z0, .int .u64 sg.z1, .int .u64 sg.z2, .int .u64 sg.z3] 32 (0, 0)) := by rw [← hW3]; exact has_alloc_new _ _
              obtain ⟨ps, hps⟩ : ∃ ps, w2.heap.size = ps := ⟨_, rfl⟩
              rw [hps] at hg3 ⊢
              have hl3 := hC3.has HL2.out (by simp)
              have e1 : W3.cell? ⟨p, 1, none⟩ = some (.int .i64 x.id) := cell_of_has hl3 1
              have e2 : W3.cell? ⟨p, 2, none⟩ = some (.string x.m) := cell_of_has hl3 2
              have HB3 := Lib.hid (HB2.out.chg0 hC3); have HCW3 := Lib.hid (HCW2.out.trans hC3); have HL3 := Lib.hid hl3; have HG3 := Lib.hid hg3
              clear hC3 hl3 hg3 hW3 hps HB2 HCW2 HL2
              go_wp2_with fail
              refine (HRS.out _ _ _ HB3.out).mono ?_
              rintro e w4 ⟨rfl, rv', hB4, hC4⟩
              obtain ⟨f1, f2, f3, f4, f5, f6⟩ := HB3.out.far HL3.out (by decide) (by decide) (by decide) (by decide) (by decide)
              obtain ⟨f7, f8, f9, f10, f11, f12⟩ := HB3.out.far HG3.out (by decide) (by decide) (by decide) (by decide) (by decide)
              have hl4 := hC4.has HL3.out (by
                intro hm
                rcases List.mem_cons.1 hm with h | h
                · exact f5 h
                · exact f6 (Option.mem_toList.1 h))
              have hg4 := hC4.has HG3.out (by
                intro hm
                rcases List.mem_cons.1 hm with h | h
                · exact f11 h
                · exact f12 (Option.mem_toList.1 h))
              have hCW4 : Chg [] W w4 := HCW3.out.trans_new hC4 (by
                intro y hy
                rcases List.mem_cons.1 hy with h | h
                · subst h; exact Or.inr HB3.out.hR.hb
                · exact Or.inr (HB3.out.hR.hv.lt y (Option.mem_toList.1 h)).1)
              have HB4 := Lib.hid hB4; have HCW4 := Lib.hid hCW4; have HL4 := Lib.hid hl4; have HG4 := Lib.hid hg4
              clear hB4 hC4 hCW4 hl4 hg4 f1 f2 f3 f4 f5 f6 f7 f8 f9 f10 f11 f12 e1 e2 HB3 HCW3 HL3 HG3
              go_upto_region 13 with fail
              obtain ⟨W5, hW5⟩ : ∃ W5, w4.alloc (.cells #[.int .u64 sg.x0, .int .u64 sg.x1, .int .u64 sg.x2, .int .u64 sg.x3, .int .u64 sg.y0, .int .u64 sg.y1, .int .u64 sg.y2, .int .u64 sg.y3, .bool sg.inf, .int .u64 sg.z0, .int .u64 sg.z1, .int .u64 sg.z2, .int .u64 sg.z3] 32) = W5 := ⟨_, rfl⟩
              rw [hW5]
              have hC5 : Chg [] w4 W5 := by rw [← hW5]; exact (Chg.refl _ _).alloc _
              have hh5 : W5.heap[w4.heap.size]? = some (.cells #[.int .u64 sg.x0, .int .u64 sg.x1, .int .u64 sg.x2, .int .u64 sg.x3, .int .u64 sg.y0, .int .u64 sg.y1, .int .u64 sg.y2, .int .u64 sg.y3, .bool sg.inf, .int .u64 sg.z0, .int .u64 sg.z1, .int .u64 sg.z2, .int .u64 sg.z3] 32 (0, 0)) := by rw [← hW5]; exact has_alloc_new _ _
              have hg5 := hC5.has HG4.out (by simp)
              have hh5c0 : W5.cell? ⟨w4.heap.size, 0, none⟩ = some (.int .u64 sg.x0) := cell_of_has hh5 0; have hh5z0 : W5.frozen? ⟨w4.heap.size, 0, none⟩ = false := frozen_of_has hh5 0; have hh5c1 : W5.cell? ⟨w4.heap.size, 1, none⟩ = some (.int .u64 sg.x1) := cell_of_has hh5 1; have hh5z1 : W5.frozen? ⟨w4.heap.size, 1, none⟩ = false := frozen_of_has hh5 1; have hh5c2 : W5.cell? ⟨w4.heap.size, 2, none⟩ = some (.int .u64 sg.x2) := cell_of_has hh5 2; have hh5z2 : W5.frozen? ⟨w4.heap.size, 2, none⟩ = false := frozen_of_has hh5 2; have hh5c3 : W5.cell? ⟨w4.heap.size, 3, none⟩ = some (.int .u64 sg.x3) := cell_of_has hh5 3; have hh5z3 : W5.frozen? ⟨w4.heap.size, 3, none⟩ = false := frozen_of_has hh5 3; have hh5c4 : W5.cell? ⟨w4.heap.size, 4, none⟩ = some (.int .u64 sg.y0) := cell_of_has hh5 4; have hh5z4 : W5.frozen? ⟨w4.heap.size, 4, none⟩ = false := frozen_of_has hh5 4; have hh5c5 : W5.cell? ⟨w4.heap.size, 5, none⟩ = some (.int .u64 sg.y1) := cell_of_has hh5 5; have hh5z5 : W5.frozen? ⟨w4.heap.size, 5, none⟩ = false := frozen_of_has hh5 5; have hh5c6 : W5.cell? ⟨w4.heap.size, 6, none⟩ = some (.int .u64 sg.y2) := cell_of_has hh5 6; have hh5z6 : W5.frozen? ⟨w4.heap.size, 6, none⟩ = false := frozen_of_has hh5 6; have hh5c7 : W5.cell? ⟨w4.heap.size, 7, none⟩ = some (.int .u64 sg.y3) := cell_of_has hh5 7; have hh5z7 : W5.frozen? ⟨w4.heap.size, 7, none⟩ = false := frozen_of_has hh5 7; have hh5c8 : W5.cell? ⟨w4.heap.size, 8, none⟩ = some (.bool sg.inf) := cell_of_has hh5 8; have hh5z8 : W5.frozen? ⟨w4.heap.size, 8, none⟩ = false := frozen_of_has hh5 8; have hh5c9 : W5.cell? ⟨w4.heap.size, 9, none⟩ = some (.int .u64 sg.z0) := cell_of_has hh5 9; have hh5z9 : W5.frozen? ⟨w4.heap.size, 9, none⟩ = false := frozen_of_has hh5 9; have hh5c10 : W5.cell? ⟨w4.heap.size, 10, none⟩ = some (.int .u64 sg.z1) := cell_of_has hh5 10; have hh5z10 : W5.frozen? ⟨w4.heap.size, 10, none⟩ = false := frozen_of_has hh5 10; have hh5c11 : W5.cell? ⟨w4.heap.size, 11, none⟩ = some (.int .u64 sg.z2) := cell_of_has hh5 11; have hh5z11 : W5.frozen? ⟨w4.heap.size, 11, none⟩ = false := frozen_of_has hh5 11; have hh5c12 : W5.cell? ⟨w4.heap.size, 12, none⟩ = some (.int .u64 sg.z3) := cell_of_has hh5 12; have hh5z12 : W5.frozen? ⟨w4.heap.size, 12, none⟩ = false := frozen_of_has hh5 12
              have hg5c0 : W5.cell? ⟨ps, 0, none⟩ = some (.int .u64 sg.x0) := cell_of_has hg5 0; have hg5z0 : W5.frozen? ⟨ps, 0, none⟩ = false := frozen_of_has hg5 0; have hg5c1 : W5.cell? ⟨ps, 1, none⟩ = some (.int .u64 sg.x1) := cell_of_has hg5 1; have hg5z1 : W5.frozen? ⟨ps, 1, none⟩ = false := frozen_of_has hg5 1; have hg5c2 : W5.cell? ⟨ps, 2, none⟩ = some (.int .u64 sg.x2) := cell_of_has hg5 2; have hg5z2 : W5.frozen? ⟨ps, 2, none⟩ = false := frozen_of_has hg5 2; have hg5c3 : W5.cell? ⟨ps, 3, none⟩ = some (.int .u64 sg.x3) := cell_of_has hg5 3; have hg5z3 : W5.frozen? ⟨ps, 3, none⟩ = false := frozen_of_has hg5 3; have hg5c4 : W5.cell? ⟨ps, 4, none⟩ = some (.int .u64 sg.y0) := cell_of_has hg5 4; have hg5z4 : W5.frozen? ⟨ps, 4, none⟩ = false := frozen_of_has hg5 4; have hg5c5 : W5.cell? ⟨ps, 5, none⟩ = some (.int .u64 sg.y1) := cell_of_has hg5 5; have hg5z5 : W5.frozen? ⟨ps, 5, none⟩ = false := frozen_of_has hg5 5; have hg5c6 : W5.cell? ⟨ps, 6, none⟩ = some (.int .u64 sg.y2) := cell_of_has hg5 6; have hg5z6 : W5.frozen? ⟨ps, 6, none⟩ = false := frozen_of_has hg5 6; have hg5c7 : W5.cell? ⟨ps, 7, none⟩ = some (.int .u64 sg.y3) := cell_of_has hg5 7; have hg5z7 : W5.frozen? ⟨ps, 7, none⟩ = false := frozen_of_has hg5 7; have hg5c8 : W5.cell? ⟨ps, 8, none⟩ = some (.bool sg.inf) := cell_of_has hg5 8; have hg5z8 : W5.frozen? ⟨ps, 8, none⟩ = false := frozen_of_has hg5 8; have hg5c9 : W5.cell? ⟨ps, 9, none⟩ = some (.int .u64 sg.z0) := cell_of_has hg5 9; have hg5z9 : W5.frozen? ⟨ps, 9, none⟩ = false := frozen_of_has hg5 9; have hg5c10 : W5.cell? ⟨ps, 10, none⟩ = some (.int .u64 sg.z1) := cell_of_has hg5 10; have hg5z10 : W5.frozen? ⟨ps, 10, none⟩ = false := frozen_of_has hg5 10; have hg5c11 : W5.cell? ⟨ps, 11, none⟩ = some (.int .u64 sg.z2) := cell_of_has hg5 11; have hg5z11 : W5.frozen? ⟨ps, 11, none⟩ = false := frozen_of_has hg5 11; have hg5c12 : W5.cell? ⟨ps, 12, none⟩ = some (.int .u64 sg.z3) := cell_of_has hg5 12; have hg5z12 : W5.frozen? ⟨ps, 12, none⟩ = false := frozen_of_has hg5 12
              have HC5 := Lib.hid hC5
              clear hC5 hh5 hg5 hW5
              have q1 := fun w => num_self sg.x0 sg.x1 sg.x2 sg.x3 9996 w
              have q2 := fun w => num_self sg.y0 sg.y1 sg.y2 sg.y3 9996 w
              have q3 := fun w => num_self sg.z0 sg.z1 sg.z2 sg.z3 9997 w
              simp only [Nat.reduceAdd] at q1 q2 q3
              go_wp2_with fail
              go_meet
              exact ⟨v', rv', _, HB4.out.chg0 HC5.out, by have := HSL.out; omega, HCW4.out.trans HC5.out, HC5.out.has HL4.out (by simp)⟩
          · have t0 : (x.what == 0) = false := by simp; omega
            have t1 : (x.what == 1) = false := by simp; omega
            have t2 : (x.what == 2) = false := by simp [hw2]
            clear hw hw2
            go_wp2_with fail
            go_meet
            exact ⟨v, rv, l, HB1.out, by omega, HC1.out, HLOC.out⟩
      case rest => as_aux_lemma =>
        obtain ⟨v', rv', l', hB', hl', hC', hL'⟩ := hcut
        clear g0 g1 g2 g3 g4 g5 g6 g7 g8 g9 g10 g11 g12 g13 g14 g15 HB1 HC1 HLOC
        obtain ⟨n, hn⟩ : ∃ n, l'.length = n := ⟨_, rfl⟩
        obtain ⟨wn, hwn⟩ : ∃ wn, (waits l').length = wn := ⟨_, rfl⟩
        have hwle := waits_len_le l'
        rw [hn, hwn] at hwle
        have hcnt := queue_count W.heap.size q r v' l' wc hB'.hQ (by omega)
        rw [hn, hwn] at hcnt
        have HB2 := Lib.hid hB'; have HC2 := Lib.hid hC'; have HL2 := Lib.hid hL'; have HN := Lib.hid hn; have HWN := Lib.hid hwn
        have hl2 : n ≤ k + 1 := by omega
        clear hB' hC' hL'
        go_wp2_with fail
        refine hcnt.mono ?_
        rintro e w2 ⟨rfl, dk, rfl⟩
        clear hcnt
        go_wp2_with fail
        refine (queue_waiting W.heap.size q r v' l' _ (HB2.out.chg0 (by repeat (with_reducible first | exact Chg.refl _ _ | refine Chg.setCell ?_ (Or.inr (Nat.le_refl _)) _ | apply Chg.drew | apply Chg.drewN | apply Chg.alloc))).hQ).mono ?_
        rintro e w3 ⟨nv, rfl, hnv, hC3⟩
        have HC3 := Lib.hid (Chg.trans ((by repeat (with_reducible first | exact Chg.refl _ _ | refine Chg.setCell ?_ (Or.inr (Nat.le_refl _)) _ | apply Chg.drew | apply Chg.drewN | apply Chg.alloc)) : Chg [] wc _) hC3); have HNV := Lib.hid hnv
        clear hC3 hnv
        go_wp2_with fail
        refine (law_same W.heap.size u _ rv' nv l' _ (HB2.out.chg0 HC3.out).hR (by rw [HN.out]; omega) HNV.out).mono ?_
        rintro e w4 ⟨rfl, hC4⟩
        have HC4 := Lib.hid (HC3.out.trans hC4)
        clear hC4 HC3 HNV
        go_wp2_with fail
        have hwt := rq_waits W.heap.size u rv' l' w4 (HB2.out.chg0 HC4.out).hR (by rw [HN.out]; omega)
        rw [HWN.out] at hwt
        refine hwt.mono ?_
        rintro e w5 ⟨rfl, hC5⟩
        clear hwt
        have HB5 := Lib.hid (HB2.out.chg0 (HC4.out.trans hC5)); have HC5 := Lib.hid (HC2.out.trans (HC4.out.trans hC5)); have HL5 := Lib.hid ((HC4.out.trans hC5).has HL2.out (by simp))
        obtain ⟨ar, cr, rfl⟩ := own_shape HB5.out.hR.hv
        have d0 : w5.cell? ⟨u, 0, none⟩ = some (.slice ar n cr) := by have := cell_of_has HB5.out.hR.hq 0; rw [HN.out] at this; exact this
        have e1 : w5.cell? ⟨p, 1, none⟩ = some (.int .i64 x.id) := cell_of_has HL5.out 1
        have s1 : IntKind.i64.wrap ((wn : Int) + ((n : Int) - wn)) = n := by rw [IntWalk.i64_in _ (by omega)]; omega
        have s2 : (wn : Int) + ((n : Int) - wn) = n := by omega
        clear hC5 HB2 HC2 HC4 HL2
        by_cases hin : x.id ∈ l'.map Ent.id
        · have HIN := Lib.hid hin
          obtain ⟨e0, he0, hid0⟩ := List.mem_map.1 hin
          have hget := queue_get W.heap.size q r v' l' e0 w5 HB5.out.hQ he0
          rw [hid0] at hget
          have HE0 := Lib.hid he0; have HID0 := Lib.hid hid0
          clear hin he0 hid0
          go_wp2_with fail
          refine hget.mono ?_
          rintro e w6 ⟨rfl, hC6⟩
          have hC56 := hC6
          obtain ⟨pg, hpg⟩ : ∃ pg, w6.heap.size = pg := ⟨_, rfl⟩
          obtain ⟨gi, hgi⟩ : ∃ gi : Int, gi = x.id := ⟨_, rfl⟩
          obtain ⟨gm, hgm⟩ : ∃ gm : ByteArray, gm = e0.m := ⟨_, rfl⟩
          rw [← hgi, ← hgm]
          have HGI := Lib.hid hgi; have HGM := Lib.hid hgm
          clear hgi hgm
          go_upto_region 22 with fail
          obtain ⟨W6, hW6⟩ : ∃ W6, w6.alloc (.cells #[.int .i64 gi, .string gm] 36) = W6 := ⟨_, rfl⟩
          rw [hW6]
          have hCa : Chg [] w6 W6 := by rw [← hW6]; exact (Chg.refl _ _).alloc _
          have hg6 : W6.heap[pg]? = some (.cells #[.int .i64 gi, .string gm] 36 (0, 0)) := by rw [← hW6, ← hpg]; exact has_alloc_new _ _
          have hC56 := hC6.trans hCa
          have HG6 := Lib.hid hg6; have HB6 := Lib.hid (HB5.out.chg0 hC56); have HL6 := Lib.hid (hC56.has HL5.out (by simp)); have HC6 := Lib.hid (HC5.out.trans hC56)
          have c0 : W6.cell? ⟨u, 0, none⟩ = some (.slice ar n cr) := by have := cell_of_has HB6.out.hR.hq 0; rw [HN.out] at this; exact this
          clear hg6 hCa hW6 hpg hC56 hC6 e1 d0
          go_wp2_with fail
          go_loopw [15, 127] (fun f i wy => ∃ j : Nat, j ≤ n ∧ i = .int .i64 j ∧ f = .bool (decide (x.id ∈ (l'.take j).map Ent.id)) ∧ Chg [] W6 wy) (fun _ i _ => n - (intOf i).toNat)
          case atStart => exact ⟨0, by omega, rfl, by simp, Chg.refl _ _⟩
          case round =>
            rename World => wy
            obtain ⟨j, hj, rfl, rfl, hCy⟩ := hrel
            have HCY := Lib.hid hCy
            by_cases hjn : j < n
            · obtain ⟨e, he⟩ : ∃ e, l'[j]? = some e := ⟨_, List.getElem?_eq_getElem (by rw [HN.out]; exact hjn)⟩
              have hown := (HB6.out.chg0 hCy).hR.hv
              rw [HN.out] at hown
              obtain ⟨g, rfl, hg, hcd⟩ := own_one hown he
              have HE := Lib.hid he
              have k0 : wy.cell? ⟨g, j * 16, none⟩ = some (.int .i64 e.id) := hcd 0 (by omega); have k1 : wy.cell? ⟨g, j * 16 + 1, none⟩ = some (.string e.m) := hcd 1 (by omega); have k2 : wy.cell? ⟨g, j * 16 + 2, none⟩ = some (.bool e.done) := hcd 2 (by omega); have k3 : wy.cell? ⟨g, j * 16 + 3, none⟩ = some (.int .u64 e.s.x0) := hcd 3 (by omega); have k4 : wy.cell? ⟨g, j * 16 + 4, none⟩ = some (.int .u64 e.s.x1) := hcd 4 (by omega); have k5 : wy.cell? ⟨g, j * 16 + 5, none⟩ = some (.int .u64 e.s.x2) := hcd 5 (by omega); have k6 : wy.cell? ⟨g, j * 16 + 6, none⟩ = some (.int .u64 e.s.x3) := hcd 6 (by omega); have k7 : wy.cell? ⟨g, j * 16 + 7, none⟩ = some (.int .u64 e.s.y0) := hcd 7 (by omega); have k8 : wy.cell? ⟨g, j * 16 + 8, none⟩ = some (.int .u64 e.s.y1) := hcd 8 (by omega); have k9 : wy.cell? ⟨g, j * 16 + 9, none⟩ = some (.int .u64 e.s.y2) := hcd 9 (by omega); have k10 : wy.cell? ⟨g, j * 16 + 10, none⟩ = some (.int .u64 e.s.y3) := hcd 10 (by omega); have k11 : wy.cell? ⟨g, j * 16 + 11, none⟩ = some (.bool e.s.inf) := hcd 11 (by omega); have k12 : wy.cell? ⟨g, j * 16 + 12, none⟩ = some (.int .u64 e.s.z0) := hcd 12 (by omega); have k13 : wy.cell? ⟨g, j * 16 + 13, none⟩ = some (.int .u64 e.s.z1) := hcd 13 (by omega); have k14 : wy.cell? ⟨g, j * 16 + 14, none⟩ = some (.int .u64 e.s.z2) := hcd 14 (by omega); have k15 : wy.cell? ⟨g, j * 16 + 15, none⟩ = some (.int .u64 e.s.z3) := hcd 15 (by omega)
              have hts : decide (x.id ∈ (l'.take (j + 1)).map Ent.id) = (decide (x.id ∈ (l'.take j).map Ent.id) || (e.id == x.id)) := by
                rw [take_succ_some he, List.map_append, Bool.eq_iff_iff]
                simp only [List.map_cons, List.map_nil, List.mem_append, List.mem_singleton, decide_eq_true_eq, Bool.or_eq_true, beq_iff_eq]
                exact ⟨fun h => h.elim Or.inl (fun h => Or.inr h.symm), fun h => h.elim Or.inl (fun h => Or.inr h.symm)⟩
              generalize decide (x.id ∈ (l'.take j).map Ent.id) = fb at *
              have HTS := Lib.hid hts
              have hl1 := hCy.has HL6.out (by simp)
              have hg1 := hCy.has HG6.out (by simp)
              have hs1 := hCy.size
              clear hcd he hown hCy hts
              go_upto_region 26 with fail
              obtain ⟨W7, hW7⟩ : ∃ W7, wy.alloc (.cells #[.int .i64 e.id, .string e.m, .bool e.done, .int .u64 e.s.x0, .int .u64 e.s.x1, .int .u64 e.s.x2, .int .u64 e.s.x3, .int .u64 e.s.y0, .int .u64 e.s.y1, .int .u64 e.s.y2, .int .u64 e.s.y3, .bool e.s.inf, .int .u64 e.s.z0, .int .u64 e.s.z1, .int .u64 e.s.z2, .int .u64 e.s.z3] 85) = W7 := ⟨_, rfl⟩
              rw [hW7]
              have hC7 : Chg [] wy W7 := by rw [← hW7]; exact (Chg.refl _ _).alloc _
              have hq1 : W7.heap[wy.heap.size]? = some (.cells #[.int .i64 e.id, .string e.m, .bool e.done, .int .u64 e.s.x0, .int .u64 e.s.x1, .int .u64 e.s.x2, .int .u64 e.s.x3, .int .u64 e.s.y0, .int .u64 e.s.y1, .int .u64 e.s.y2, .int .u64 e.s.y3, .bool e.s.inf, .int .u64 e.s.z0, .int .u64 e.s.z1, .int .u64 e.s.z2, .int .u64 e.s.z3] 85 (0, 0)) := by rw [← hW7]; exact has_alloc_new _ _
              have hl7 := hC7.has hl1 (by simp)
              have hg7 := hC7.has hg1 (by simp)
              have r0 : W7.cell? ⟨wy.heap.size, 0, none⟩ = some (.int .i64 e.id) := cell_of_has hq1 0
              have r1 : W7.cell? ⟨wy.heap.size, 1, none⟩ = some (.string e.m) := cell_of_has hq1 1
              have r2 : W7.cell? ⟨p, 1, none⟩ = some (.int .i64 x.id) := cell_of_has hl7 1
              have r3 : W7.cell? ⟨pg, 0, none⟩ = some (.int .i64 gi) := cell_of_has hg7 0
              have r4 : W7.cell? ⟨pg, 1, none⟩ = some (.string gm) := cell_of_has hg7 1
              have HC7 := Lib.hid (HCY.out.trans hC7)
              clear k0 k1 k2 k3 k4 k5 k6 k7 k8 k9 k10 k11 k12 k13 k14 k15 c0
              clear hl1 hg1 hC7 hq1 hl7 hg7 hW7
              by_cases hid : e.id = x.id
              · have hee : e = e0 := ent_same HB6.out.hQ.hn (List.mem_of_getElem? HE.out) HE0.out (hid.trans HID0.out.symm)
                have m1 : (gm.toList == e.m.toList) = true := by rw [HGM.out, hee]; simp
                have m2 : (gi == e.id) = true := by rw [HGI.out, ← HID0.out, hee]; simp
                have m3 : (e.id == x.id) = true := by simpa using hid
                clear hid hee
                go_wp2_with fail
                refine ⟨⟨j+1, by omega, by go_num, ?_, HC7.out⟩, by simp [intOf]; omega⟩
                rw [HTS.out, m3]; simp
              · have hne : (e.id == x.id) = false := by simpa using hid
                clear hid
                go_wp2_with fail
                refine ⟨⟨j+1, by omega, by go_num, ?_, HC7.out⟩, by simp [intOf]; omega⟩
                rw [HTS.out, hne]; simp
            · obtain rfl : n = j := by omega
              have ht : l'.take n = l' := List.take_of_length_le (by rw [HN.out]; exact Nat.le_refl _)
              rw [ht, show decide (x.id ∈ l'.map Ent.id) = true from by simpa using HIN.out]
              go_wp2_with fail
              go_roundg (zs.length - (k + 1))
              case measure => omega
              case rel => exact ⟨k + 1, v', _, l', by omega, by go_num, by have hh := HB6.out.chg0 HCY.out; rw [HN.out] at hh; exact hh, hl', HC6.out.trans HCY.out⟩

        · have HIN := Lib.hid hin
          have hget := queue_get_no W.heap.size q r v' l' x.id w5 HB5.out.hQ (fun e he hx => hin (List.mem_map.2 ⟨e, he, hx⟩))
          clear hin
          go_wp2_with fail
          refine hget.mono ?_
          rintro e w6 ⟨rfl, hC6⟩
          have hC56 := hC6
          obtain ⟨pg, hpg⟩ : ∃ pg, w6.heap.size = pg := ⟨_, rfl⟩
          obtain ⟨gi, hgi⟩ : ∃ gi : Int, gi = 0 := ⟨_, rfl⟩
          obtain ⟨gm, hgm⟩ : ∃ gm : ByteArray, gm = ⟨#[]⟩ := ⟨_, rfl⟩
          rw [← hgi, ← hgm]
          have HGI := Lib.hid hgi; have HGM := Lib.hid hgm
          clear hgi hgm
          go_upto_region 22 with fail
          obtain ⟨W6, hW6⟩ : ∃ W6, w6.alloc (.cells #[.int .i64 gi, .string gm] 36) = W6 := ⟨_, rfl⟩
          rw [hW6]
          have hCa : Chg [] w6 W6 := by rw [← hW6]; exact (Chg.refl _ _).alloc _
          have hg6 : W6.heap[pg]? = some (.cells #[.int .i64 gi, .string gm] 36 (0, 0)) := by rw [← hW6, ← hpg]; exact has_alloc_new _ _
          have hC56 := hC6.trans hCa
          have HG6 := Lib.hid hg6; have HB6 := Lib.hid (HB5.out.chg0 hC56); have HL6 := Lib.hid (hC56.has HL5.out (by simp)); have HC6 := Lib.hid (HC5.out.trans hC56)
          have c0 : W6.cell? ⟨u, 0, none⟩ = some (.slice ar n cr) := by have := cell_of_has HB6.out.hR.hq 0; rw [HN.out] at this; exact this
          clear hg6 hCa hW6 hpg hC56 hC6 e1 d0
          go_wp2_with fail
          go_loopw [15, 127] (fun f i wy => ∃ j : Nat, j ≤ n ∧ i = .int .i64 j ∧ f = .bool (decide (x.id ∈ (l'.take j).map Ent.id)) ∧ Chg [] W6 wy) (fun _ i _ => n - (intOf i).toNat)
          case atStart => exact ⟨0, by omega, rfl, by simp, Chg.refl _ _⟩
          case round =>
            rename World => wy
            obtain ⟨j, hj, rfl, rfl, hCy⟩ := hrel
            have HCY := Lib.hid hCy
            by_cases hjn : j < n
            · obtain ⟨e, he⟩ : ∃ e, l'[j]? = some e := ⟨_, List.getElem?_eq_getElem (by rw [HN.out]; exact hjn)⟩
              have hown := (HB6.out.chg0 hCy).hR.hv
              rw [HN.out] at hown
              obtain ⟨g, rfl, hg, hcd⟩ := own_one hown he
              have HE := Lib.hid he
              have k0 : wy.cell? ⟨g, j * 16, none⟩ = some (.int .i64 e.id) := hcd 0 (by omega); have k1 : wy.cell? ⟨g, j * 16 + 1, none⟩ = some (.string e.m) := hcd 1 (by omega); have k2 : wy.cell? ⟨g, j * 16 + 2, none⟩ = some (.bool e.done) := hcd 2 (by omega); have k3 : wy.cell? ⟨g, j * 16 + 3, none⟩ = some (.int .u64 e.s.x0) := hcd 3 (by omega); have k4 : wy.cell? ⟨g, j * 16 + 4, none⟩ = some (.int .u64 e.s.x1) := hcd 4 (by omega); have k5 : wy.cell? ⟨g, j * 16 + 5, none⟩ = some (.int .u64 e.s.x2) := hcd 5 (by omega); have k6 : wy.cell? ⟨g, j * 16 + 6, none⟩ = some (.int .u64 e.s.x3) := hcd 6 (by omega); have k7 : wy.cell? ⟨g, j * 16 + 7, none⟩ = some (.int .u64 e.s.y0) := hcd 7 (by omega); have k8 : wy.cell? ⟨g, j * 16 + 8, none⟩ = some (.int .u64 e.s.y1) := hcd 8 (by omega); have k9 : wy.cell? ⟨g, j * 16 + 9, none⟩ = some (.int .u64 e.s.y2) := hcd 9 (by omega); have k10 : wy.cell? ⟨g, j * 16 + 10, none⟩ = some (.int .u64 e.s.y3) := hcd 10 (by omega); have k11 : wy.cell? ⟨g, j * 16 + 11, none⟩ = some (.bool e.s.inf) := hcd 11 (by omega); have k12 : wy.cell? ⟨g, j * 16 + 12, none⟩ = some (.int .u64 e.s.z0) := hcd 12 (by omega); have k13 : wy.cell? ⟨g, j * 16 + 13, none⟩ = some (.int .u64 e.s.z1) := hcd 13 (by omega); have k14 : wy.cell? ⟨g, j * 16 + 14, none⟩ = some (.int .u64 e.s.z2) := hcd 14 (by omega); have k15 : wy.cell? ⟨g, j * 16 + 15, none⟩ = some (.int .u64 e.s.z3) := hcd 15 (by omega)
              have hts : decide (x.id ∈ (l'.take (j + 1)).map Ent.id) = (decide (x.id ∈ (l'.take j).map Ent.id) || (e.id == x.id)) := by
                rw [take_succ_some he, List.map_append, Bool.eq_iff_iff]
                simp only [List.map_cons, List.map_nil, List.mem_append, List.mem_singleton, decide_eq_true_eq, Bool.or_eq_true, beq_iff_eq]
                exact ⟨fun h => h.elim Or.inl (fun h => Or.inr h.symm), fun h => h.elim Or.inl (fun h => Or.inr h.symm)⟩
              generalize decide (x.id ∈ (l'.take j).map Ent.id) = fb at *
              have HTS := Lib.hid hts
              have hl1 := hCy.has HL6.out (by simp)
              have hg1 := hCy.has HG6.out (by simp)
              have hs1 := hCy.size
              clear hcd he hown hCy hts
              go_upto_region 26 with fail
              obtain ⟨W7, hW7⟩ : ∃ W7, wy.alloc (.cells #[.int .i64 e.id, .string e.m, .bool e.done, .int .u64 e.s.x0, .int .u64 e.s.x1, .int .u64 e.s.x2, .int .u64 e.s.x3, .int .u64 e.s.y0, .int .u64 e.s.y1, .int .u64 e.s.y2, .int .u64 e.s.y3, .bool e.s.inf, .int .u64 e.s.z0, .int .u64 e.s.z1, .int .u64 e.s.z2, .int .u64 e.s.z3] 85) = W7 := ⟨_, rfl⟩
              rw [hW7]
              have hC7 : Chg [] wy W7 := by rw [← hW7]; exact (Chg.refl _ _).alloc _
              have hq1 : W7.heap[wy.heap.size]? = some (.cells #[.int .i64 e.id, .string e.m, .bool e.done, .int .u64 e.s.x0, .int .u64 e.s.x1, .int .u64 e.s.x2, .int .u64 e.s.x3, .int .u64 e.s.y0, .int .u64 e.s.y1, .int .u64 e.s.y2, .int .u64 e.s.y3, .bool e.s.inf, .int .u64 e.s.z0, .int .u64 e.s.z1, .int .u64 e.s.z2, .int .u64 e.s.z3] 85 (0, 0)) := by rw [← hW7]; exact has_alloc_new _ _
              have hl7 := hC7.has hl1 (by simp)
              have hg7 := hC7.has hg1 (by simp)
              have r0 : W7.cell? ⟨wy.heap.size, 0, none⟩ = some (.int .i64 e.id) := cell_of_has hq1 0
              have r1 : W7.cell? ⟨wy.heap.size, 1, none⟩ = some (.string e.m) := cell_of_has hq1 1
              have r2 : W7.cell? ⟨p, 1, none⟩ = some (.int .i64 x.id) := cell_of_has hl7 1
              have r3 : W7.cell? ⟨pg, 0, none⟩ = some (.int .i64 gi) := cell_of_has hg7 0
              have r4 : W7.cell? ⟨pg, 1, none⟩ = some (.string gm) := cell_of_has hg7 1
              have HC7 := Lib.hid (HCY.out.trans hC7)
              clear k0 k1 k2 k3 k4 k5 k6 k7 k8 k9 k10 k11 k12 k13 k14 k15 c0
              clear hl1 hg1 hC7 hq1 hl7 hg7 hW7
              by_cases hid : e.id = x.id
              · exact absurd (List.mem_map.2 ⟨e, List.mem_of_getElem? HE.out, hid⟩) HIN.out
              · have hne : (e.id == x.id) = false := by simpa using hid
                clear hid
                go_wp2_with fail
                refine ⟨⟨j+1, by omega, by go_num, ?_, HC7.out⟩, by simp [intOf]; omega⟩
                rw [HTS.out, hne]; simp
            · obtain rfl : n = j := by omega
              have ht : l'.take n = l' := List.take_of_length_le (by rw [HN.out]; exact Nat.le_refl _)
              rw [ht, show decide (x.id ∈ l'.map Ent.id) = false from by simpa using HIN.out]
              go_wp2_with fail
              go_roundg (zs.length - (k + 1))
              case measure => omega
              case rel => exact ⟨k + 1, v', _, l', by omega, by go_num, by have hh := HB6.out.chg0 HCY.out; rw [HN.out] at hh; exact hh, hl', HC6.out.trans HCY.out⟩

    · obtain rfl : zs.length = k := by omega
      have HCR := Lib.hid hCr
      clear hB hCr
      go_wp2_with fail
      refine (law22_four _).mono ?_
      rintro e w3 ⟨rfl, hC3⟩
      go_wp2_with fail
      go_ret
      exact ⟨rfl, (HCR.out.trans hC3).below⟩

set_option maxRecDepth 100000 in
set_option maxHeartbeats 1000000 in
theorem steps_any (a : Option Addr) (cap : Nat) (zs : List St) (W : World) (hR : ReadsS W a zs) :
    Calls Try.prog 10 #[.slice a zs.length cap] W fun e w' => e = .returned (.bool true) ∧ Below W.heap.size W w' := by
  by_cases hz : zs.length ≤ 300
  · exact steps_main a cap zs W hR hz
  · clear hR
    have h1 : 300 < (zs.length : Int) := by omega
    go_enter Try.func10, Try.ntmps10
    go_wp2_with fail
    refine (queue_new _).mono ?_
    rintro e w1 ⟨q, r, rfl, hq, hQ, hC⟩
    have HC := Lib.hid hC; clear hC hQ
    go_wp2_with fail
    refine (law22_four _).mono ?_
    rintro e w3 ⟨rfl, hC3⟩
    go_wp2_with fail
    go_ret
    exact ⟨rfl, (HC.out.trans hC3).below⟩

section
open Go.WideShapes Go.ChangeShapes
variable {H : Type} (enc : TypeId × Value → H) (W : World)

theorem queueSteps_law {v0 : Value} {d0 : DataW H} {p0 : List MemPlace} {base : Nat}
    (h0 : DataW.Trod enc Try.prog W 0 (fun _ => true) true 42 v0 d0 p0) (k0 : Value.okWide Try.prog W .any base 42 v0)
    (_hsz : (DataW.weightsEach Try.prog [42] [d0]).all (· ≤ reachBytes) = true) :
    Calls Try.prog 10 #[v0] W fun e w' => e = .returned (.bool true) ∧ Below W.heap.size W w' := by
  obtain ⟨n0, g0⟩ := h0
  obtain ⟨a0, len0, cap0, rfl⟩ := okWide_slice Try.underlying42 k0
  obtain ⟨A, c, zs, hv, hz, hR⟩ := open_steps g0
  injection hv with e1 e2 e3
  subst e1; subst e2; subst e3
  exact steps_any _ _ zs W hR
end

end Go.Proofs.Ytgiackgdceanhaa
