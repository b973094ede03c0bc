/- The walks of the reference's queue: Submit. -/
import Derived.Test.YtgiackgdceanhaaQueueO
namespace Go.Proofs.Ytgiackgdceanhaa
set_option linter.unusedVariables false
set_option linter.unusedSimpArgs false
open Go.RowKit

theorem fnd_take_none {l : List Ent} {id : Int} {j : Nat} {e : Ent} (hn : ∀ e ∈ l.take j, e.id ≠ id) (he : l[j]? = some e) (hid : e.id = id) : fnd l id = some e := by
  unfold fnd
  obtain ⟨hj, hx⟩ := List.getElem?_eq_some_iff.1 he
  have : l = l.take j ++ e :: l.drop (j + 1) := by rw [← hx, List.getElem_cons_drop, List.take_append_drop]
  rw [this, List.find?_append, List.find?_eq_none.2 (by intro x hx'; simpa using hn x hx')]
  simp [hid]

/-- What the reference's Submit answers and leaves. -/
def RSub (base u : Nat) (rv : Value) (l : List Ent) (id : Int) (m : ByteArray) (w : World) (e : Ending) (w' : World) : Prop :=
  e = .returned (.tuple #[.int .i64 (subCode l id m), .agg #[.int .u64 (subSig l id m).x0, .int .u64 (subSig l id m).x1, .int .u64 (subSig l id m).x2, .int .u64 (subSig l id m).x3, .int .u64 (subSig l id m).y0, .int .u64 (subSig l id m).y1, .int .u64 (subSig l id m).y2, .int .u64 (subSig l id m).y3, .bool (subSig l id m).inf, .int .u64 (subSig l id m).z0, .int .u64 (subSig l id m).z1, .int .u64 (subSig l id m).z2, .int .u64 (subSig l id m).z3]]) ∧ ∃ rv', (∀ b, RQ w' base u rv' (subL l id m b)) ∧ (rv'.ownBlock = rv.ownBlock ∨ ∃ b, rv'.ownBlock = some b ∧ w.heap.size ≤ b) ∧ Chg (u :: rv.ownBlock.toList) w w'

theorem RSub.keep {base u : Nat} {rv : Value} {l : List Ent} {id : Int} {m : ByteArray} {w w' : World} {c : Int} {s : Sg} (hR : RQ w base u rv l) (hc : subCode l id m = c) (hs : subSig l id m = s) (hl : ∀ b, subL l id m b = l) (hC : Chg [] w w') :
    RSub base u rv l id m w (.returned (.tuple #[.int .i64 c, .agg #[.int .u64 s.x0, .int .u64 s.x1, .int .u64 s.x2, .int .u64 s.x3, .int .u64 s.y0, .int .u64 s.y1, .int .u64 s.y2, .int .u64 s.y3, .bool s.inf, .int .u64 s.z0, .int .u64 s.z1, .int .u64 s.z2, .int .u64 s.z3]])) w' := by
  subst hc; subst hs
  exact ⟨rfl, rv, fun b => by rw [hl]; exact hR.chg0 hC, Or.inl rfl, hC.mono (by simp)⟩

theorem rsub_new {base u : Nat} {rv v3 : Value} {l : List Ent} {id : Int} {m : ByteArray} {w w2 w3 wf : World} {cs : Array Value} {t : TypeId} (hR : RQ w base u rv l) (hok : okReq id m) (hf : fnd l id = none) (h8 : (waits l).length ≠ 8) (hC2 : Chg [] w w2)
    (hown : w3.ownsRow base 85 16 v3 (l.length + 1) (oneCells l ++ (#[.int .i64 id, .string m, .bool false, .int .u64 0, .int .u64 0, .int .u64 0, .int .u64 0, .int .u64 0, .int .u64 0, .int .u64 0, .int .u64 0, .bool false, .int .u64 0, .int .u64 0, .int .u64 0, .int .u64 0] : Array Value).toList)) (hg : (w2.alloc (.cells cs t)).grownBy w3 rv.ownBlock)
    (hat : v3.ownBlock = rv.ownBlock ∨ v3.ownBlock = some (w2.alloc (.cells cs t)).heap.size) (hq3 : w3.heap[u]? = some (.cells #[rv] 78 (0, 0))) (hlt : w.heap.size < w2.heap.size) (hcf : ∀ S, w.heap.size ∈ S → Chg S (w3.setCell ⟨u, 0, none⟩ v3) wf) :
    RSub base u rv l id m w (.returned (.tuple #[.int .i64 1, .agg #[.int .u64 0, .int .u64 0, .int .u64 0, .int .u64 0, .int .u64 0, .int .u64 0, .int .u64 0, .int .u64 0, .bool false, .int .u64 0, .int .u64 0, .int .u64 0, .int .u64 0]])) wf := by
  have hul := lt_of_has hR.hq
  have hC3 : Chg (rv.ownBlock.toList) w w3 := (((hC2.alloc (.cells cs t)).mono (by simp))).grown hg (by intro k hk; left; simp [hk])
  have hC4 : Chg (u :: rv.ownBlock.toList) w (w3.setCell ⟨u, 0, none⟩ v3) := (hC3.mono (by intro x hx; exact List.mem_cons_of_mem _ hx)).setCell (Or.inl (by simp)) v3
  have hCF := hcf [w.heap.size] (by simp)
  have hq4 : (w3.setCell ⟨u, 0, none⟩ v3).heap[u]? = some (.cells #[v3] 78 (0, 0)) := by rw [has_set hq3]; rfl
  have hown4 : (w3.setCell ⟨u, 0, none⟩ v3).ownsRow base 85 16 v3 (l.length + 1) (oneCells l ++ (#[.int .i64 id, .string m, .bool false, .int .u64 0, .int .u64 0, .int .u64 0, .int .u64 0, .int .u64 0, .int .u64 0, .int .u64 0, .int .u64 0, .bool false, .int .u64 0, .int .u64 0, .int .u64 0, .int .u64 0] : Array Value).toList) := by
    refine own_chg hown ((Chg.refl [u] w3).setCell (Or.inl (by simp)) v3) ?_
    intro b hb hm
    obtain rfl := List.mem_singleton.1 hm
    exact own_ne hown hq3 (by decide) hb.symm
  have hsz : ∀ b, v3.ownBlock = some b → b ≠ w.heap.size := by
    intro b hb
    rcases hat with h | h
    · have := (hR.hv.lt b (h.symm.trans hb)).2; omega
    · rw [h] at hb; injection hb with hb; simp at hb; omega
  refine ⟨?_, v3, fun b => ?_, ?_, ?_⟩
  · simp [subCode, subSig, hok, hf, h8, Sg.zero]
  · have e1 : subL l id m b = l ++ [⟨id, m, false, .zero, b⟩] := by simp [subL, hok, hf, h8]
    rw [e1]
    refine ⟨hCF.has hq4 (by simp; omega), ?_, hR.hb⟩
    have h5 := own_chg hown4 hCF (fun b hb hm => hsz b hb (List.mem_singleton.1 hm))
    rw [List.length_append]
    have e2 : oneCells (l ++ [⟨id, m, false, .zero, b⟩]) = oneCells l ++ (#[.int .i64 id, .string m, .bool false, .int .u64 0, .int .u64 0, .int .u64 0, .int .u64 0, .int .u64 0, .int .u64 0, .int .u64 0, .int .u64 0, .bool false, .int .u64 0, .int .u64 0, .int .u64 0, .int .u64 0] : Array Value).toList := by simp [oneCells, Ent.one, Sg.zero]
    rw [e2]; exact h5
  · rcases hat with h | h
    · exact Or.inl h
    · exact Or.inr ⟨_, h, by simp; omega⟩
  · exact hC4.trans_new hCF (by intro x hx; obtain rfl := List.mem_singleton.1 hx; exact Or.inr (Nat.le_refl _))

set_option maxRecDepth 100000 in
set_option maxHeartbeats 4000000 in
theorem rq_submit_bad (base u : Nat) (rv : Value) (l : List Ent) (id : Int) (m : ByteArray) (w : World) (hR : RQ w base u rv l) (hbad : ¬ okReq id m) :
    Calls Try.prog 33 #[.pointer (some ⟨u, 0, none⟩), .int .i64 id, .string m] w (RSub base u rv l id m w) := by
  have hend := fun (w' : World) (hC : Chg [] w w') => RSub.keep hR (id := id) (m := m) (c := 3) (s := .zero) (by simp [subCode, hbad]) (by simp [subSig, hbad]) (fun b => by simp [subL, hbad]) hC
  have HEND := Lib.hid hend
  clear hend hR
  rcases not_okReq hbad with h1 | ⟨h1, h2⟩ | ⟨h1, h2, h3⟩
  all_goals
    clear hbad
    go_enter Try.func33, Try.ntmps33
    go_wp2_with fail
    refine bodyPost_ret (v := .tuple #[.int .i64 3, .agg #[.int .u64 0, .int .u64 0, .int .u64 0, .int .u64 0, .int .u64 0, .int .u64 0, .int .u64 0, .int .u64 0, .bool false, .int .u64 0, .int .u64 0, .int .u64 0, .int .u64 0]]) (by simp [results, Try.results33, go_sem]) rfl (HEND.out _ (by repeat (with_reducible first | exact Chg.refl _ _ | refine Chg.setCell ?_ (Or.inr (Nat.le_refl _)) _ | apply Chg.drew | apply Chg.drewN | apply Chg.alloc)))

set_option maxRecDepth 100000 in
set_option maxHeartbeats 8000000 in
theorem rq_submit_ok (base u : Nat) (rv : Value) (l : List Ent) (id : Int) (m : ByteArray) (w : World) (hR : RQ w base u rv l) (hl : l.length ≤ 1000000) (hn : (l.map Ent.id).Nodup) (h8 : (waits l).length ≤ 8) (hok : okReq id m) :
    Calls Try.prog 33 #[.pointer (some ⟨u, 0, none⟩), .int .i64 id, .string m] w (RSub base u rv l id m w) := by
  have HOK := Lib.hid hok
  obtain ⟨h1, h2, h3⟩ := hok
  have h4 : (m.size : Int) ≤ 4096 := by omega
  have h5 : ¬ id < 1 := by omega
  obtain ⟨a, cap, rfl⟩ := own_shape hR.hv
  have c0 : w.cell? ⟨u, 0, none⟩ = some (.slice a l.length cap) := cell_of_has hR.hq 0
  have hul := lt_of_has hR.hq
  obtain ⟨n, hnn⟩ : ∃ n, l.length = n := ⟨_, rfl⟩
  have HR := Lib.hid hR; have HN := Lib.hid hnn; have HND := Lib.hid hn
  rw [hnn] at c0 hl
  clear hR hnn hn
  go_enter Try.func33, Try.ntmps33
  go_wp2_with fail
  go_loopw [27] (fun i wr => ∃ j : Nat, j ≤ n ∧ i = .int .i64 j ∧ (∀ e ∈ l.take j, e.id ≠ id) ∧ Chg [] w wr ∧ wr.heap[w.heap.size]? = some (.cells #[.int .u64 0, .int .u64 0, .int .u64 0, .int .u64 0, .int .u64 0, .int .u64 0, .int .u64 0, .int .u64 0, .bool false, .int .u64 0, .int .u64 0, .int .u64 0, .int .u64 0] 32 (0, 0))) (fun i _ => n - (intOf i).toNat)
  case atStart => exact ⟨0, by omega, rfl, by simp, (by repeat (with_reducible first | exact Chg.refl _ _ | refine Chg.setCell ?_ (Or.inr (Nat.le_refl _)) _ | apply Chg.drew | apply Chg.drewN | apply Chg.alloc)), has_alloc_new _ _⟩
  case round =>
    obtain ⟨j, hj, rfl, hno, hC, hsg⟩ := hrel
    have HNO := Lib.hid hno; have HC := Lib.hid hC
    have hsl := lt_of_has hsg
    by_cases hlt : j < n
    · obtain ⟨e, he⟩ : ∃ e, l[j]? = some e := ⟨_, List.getElem?_eq_getElem (by rw [HN.out]; exact hlt)⟩
      have hown := (HR.out.chg0 hC).hv
      rw [HN.out] at hown
      obtain ⟨g, rfl, hg, hcd⟩ := own_one hown he
      have hHE := Lib.hid he
      have c0 : wr.cell? ⟨g, j * 16, none⟩ = some (.int .i64 e.id) := hcd 0 (by omega); have c1 : wr.cell? ⟨g, j * 16 + 1, none⟩ = some (.string e.m) := hcd 1 (by omega); have c2 : wr.cell? ⟨g, j * 16 + 2, none⟩ = some (.bool e.done) := hcd 2 (by omega); have c3 : wr.cell? ⟨g, j * 16 + 3, none⟩ = some (.int .u64 e.s.x0) := hcd 3 (by omega); have c4 : wr.cell? ⟨g, j * 16 + 4, none⟩ = some (.int .u64 e.s.x1) := hcd 4 (by omega); have c5 : wr.cell? ⟨g, j * 16 + 5, none⟩ = some (.int .u64 e.s.x2) := hcd 5 (by omega); have c6 : wr.cell? ⟨g, j * 16 + 6, none⟩ = some (.int .u64 e.s.x3) := hcd 6 (by omega); have c7 : wr.cell? ⟨g, j * 16 + 7, none⟩ = some (.int .u64 e.s.y0) := hcd 7 (by omega); have c8 : wr.cell? ⟨g, j * 16 + 8, none⟩ = some (.int .u64 e.s.y1) := hcd 8 (by omega); have c9 : wr.cell? ⟨g, j * 16 + 9, none⟩ = some (.int .u64 e.s.y2) := hcd 9 (by omega); have c10 : wr.cell? ⟨g, j * 16 + 10, none⟩ = some (.int .u64 e.s.y3) := hcd 10 (by omega); have c11 : wr.cell? ⟨g, j * 16 + 11, none⟩ = some (.bool e.s.inf) := hcd 11 (by omega); have c12 : wr.cell? ⟨g, j * 16 + 12, none⟩ = some (.int .u64 e.s.z0) := hcd 12 (by omega); have c13 : wr.cell? ⟨g, j * 16 + 13, none⟩ = some (.int .u64 e.s.z1) := hcd 13 (by omega); have c14 : wr.cell? ⟨g, j * 16 + 14, none⟩ = some (.int .u64 e.s.z2) := hcd 14 (by omega); have c15 : wr.cell? ⟨g, j * 16 + 15, none⟩ = some (.int .u64 e.s.z3) := hcd 15 (by omega)
      have HSG := Lib.hid hsg
      clear hcd he hown hC hno hsg
      go_upto_region 6 with fail
      obtain ⟨W1, hW1⟩ : ∃ W1, wr.alloc (.cells #[.int .i64 e.id, .string e.m, .bool e.done, .int .u64 e.s.x0, .int .u64 e.s.x1, .int .u64 e.s.x2, .int .u64 e.s.x3, .int .u64 e.s.y0, .int .u64 e.s.y1, .int .u64 e.s.y2, .int .u64 e.s.y3, .bool e.s.inf, .int .u64 e.s.z0, .int .u64 e.s.z1, .int .u64 e.s.z2, .int .u64 e.s.z3] 85) = W1 := ⟨_, rfl⟩
      rw [hW1]
      have hC1 : Chg [] w W1 := by rw [← hW1]; exact HC.out.alloc _
      have hq1 : W1.heap[wr.heap.size]? = some (.cells #[.int .i64 e.id, .string e.m, .bool e.done, .int .u64 e.s.x0, .int .u64 e.s.x1, .int .u64 e.s.x2, .int .u64 e.s.x3, .int .u64 e.s.y0, .int .u64 e.s.y1, .int .u64 e.s.y2, .int .u64 e.s.y3, .bool e.s.inf, .int .u64 e.s.z0, .int .u64 e.s.z1, .int .u64 e.s.z2, .int .u64 e.s.z3] 85 (0, 0)) := by rw [← hW1]; exact has_alloc_new _ _
      have hs1 : W1.heap[w.heap.size]? = some (.cells #[.int .u64 0, .int .u64 0, .int .u64 0, .int .u64 0, .int .u64 0, .int .u64 0, .int .u64 0, .int .u64 0, .bool false, .int .u64 0, .int .u64 0, .int .u64 0, .int .u64 0] 32 (0, 0)) := by rw [← hW1]; exact has_alloc HSG.out
      clear c0 c1 c2 c3 c4 c5 c6 c7 c8 c9 c10 c11 c12 c13 c14 c15
      have f0 : W1.cell? ⟨wr.heap.size, 0, none⟩ = some (.int .i64 e.id) := cell_of_has hq1 0; have f1 : W1.cell? ⟨wr.heap.size, 1, none⟩ = some (.string e.m) := cell_of_has hq1 1; have f2 : W1.cell? ⟨wr.heap.size, 2, none⟩ = some (.bool e.done) := cell_of_has hq1 2; have f3 : W1.cell? ⟨wr.heap.size, 3, none⟩ = some (.int .u64 e.s.x0) := cell_of_has hq1 3; have f4 : W1.cell? ⟨wr.heap.size, 4, none⟩ = some (.int .u64 e.s.x1) := cell_of_has hq1 4; have f5 : W1.cell? ⟨wr.heap.size, 5, none⟩ = some (.int .u64 e.s.x2) := cell_of_has hq1 5; have f6 : W1.cell? ⟨wr.heap.size, 6, none⟩ = some (.int .u64 e.s.x3) := cell_of_has hq1 6; have f7 : W1.cell? ⟨wr.heap.size, 7, none⟩ = some (.int .u64 e.s.y0) := cell_of_has hq1 7; have f8 : W1.cell? ⟨wr.heap.size, 8, none⟩ = some (.int .u64 e.s.y1) := cell_of_has hq1 8; have f9 : W1.cell? ⟨wr.heap.size, 9, none⟩ = some (.int .u64 e.s.y2) := cell_of_has hq1 9; have f10 : W1.cell? ⟨wr.heap.size, 10, none⟩ = some (.int .u64 e.s.y3) := cell_of_has hq1 10; have f11 : W1.cell? ⟨wr.heap.size, 11, none⟩ = some (.bool e.s.inf) := cell_of_has hq1 11; have f12 : W1.cell? ⟨wr.heap.size, 12, none⟩ = some (.int .u64 e.s.z0) := cell_of_has hq1 12; have f13 : W1.cell? ⟨wr.heap.size, 13, none⟩ = some (.int .u64 e.s.z1) := cell_of_has hq1 13; have f14 : W1.cell? ⟨wr.heap.size, 14, none⟩ = some (.int .u64 e.s.z2) := cell_of_has hq1 14; have f15 : W1.cell? ⟨wr.heap.size, 15, none⟩ = some (.int .u64 e.s.z3) := cell_of_has hq1 15
      have hs1c0 : W1.cell? ⟨w.heap.size, 0, none⟩ = some (.int .u64 0) := cell_of_has hs1 0; have hs1z0 : W1.frozen? ⟨w.heap.size, 0, none⟩ = false := frozen_of_has hs1 0; have hs1c1 : W1.cell? ⟨w.heap.size, 1, none⟩ = some (.int .u64 0) := cell_of_has hs1 1; have hs1z1 : W1.frozen? ⟨w.heap.size, 1, none⟩ = false := frozen_of_has hs1 1; have hs1c2 : W1.cell? ⟨w.heap.size, 2, none⟩ = some (.int .u64 0) := cell_of_has hs1 2; have hs1z2 : W1.frozen? ⟨w.heap.size, 2, none⟩ = false := frozen_of_has hs1 2; have hs1c3 : W1.cell? ⟨w.heap.size, 3, none⟩ = some (.int .u64 0) := cell_of_has hs1 3; have hs1z3 : W1.frozen? ⟨w.heap.size, 3, none⟩ = false := frozen_of_has hs1 3; have hs1c4 : W1.cell? ⟨w.heap.size, 4, none⟩ = some (.int .u64 0) := cell_of_has hs1 4; have hs1z4 : W1.frozen? ⟨w.heap.size, 4, none⟩ = false := frozen_of_has hs1 4; have hs1c5 : W1.cell? ⟨w.heap.size, 5, none⟩ = some (.int .u64 0) := cell_of_has hs1 5; have hs1z5 : W1.frozen? ⟨w.heap.size, 5, none⟩ = false := frozen_of_has hs1 5; have hs1c6 : W1.cell? ⟨w.heap.size, 6, none⟩ = some (.int .u64 0) := cell_of_has hs1 6; have hs1z6 : W1.frozen? ⟨w.heap.size, 6, none⟩ = false := frozen_of_has hs1 6; have hs1c7 : W1.cell? ⟨w.heap.size, 7, none⟩ = some (.int .u64 0) := cell_of_has hs1 7; have hs1z7 : W1.frozen? ⟨w.heap.size, 7, none⟩ = false := frozen_of_has hs1 7; have hs1c8 : W1.cell? ⟨w.heap.size, 8, none⟩ = some (.bool false) := cell_of_has hs1 8; have hs1z8 : W1.frozen? ⟨w.heap.size, 8, none⟩ = false := frozen_of_has hs1 8; have hs1c9 : W1.cell? ⟨w.heap.size, 9, none⟩ = some (.int .u64 0) := cell_of_has hs1 9; have hs1z9 : W1.frozen? ⟨w.heap.size, 9, none⟩ = false := frozen_of_has hs1 9; have hs1c10 : W1.cell? ⟨w.heap.size, 10, none⟩ = some (.int .u64 0) := cell_of_has hs1 10; have hs1z10 : W1.frozen? ⟨w.heap.size, 10, none⟩ = false := frozen_of_has hs1 10; have hs1c11 : W1.cell? ⟨w.heap.size, 11, none⟩ = some (.int .u64 0) := cell_of_has hs1 11; have hs1z11 : W1.frozen? ⟨w.heap.size, 11, none⟩ = false := frozen_of_has hs1 11; have hs1c12 : W1.cell? ⟨w.heap.size, 12, none⟩ = some (.int .u64 0) := cell_of_has hs1 12; have hs1z12 : W1.frozen? ⟨w.heap.size, 12, none⟩ = false := frozen_of_has hs1 12
      have hl1 := lt_of_has hq1
      have n1 : ¬ w.heap.size = wr.heap.size := by omega
      have n2 : ¬ wr.heap.size = w.heap.size := by omega
      have HS1 := Lib.hid hs1; have HC1 := Lib.hid hC1
      clear hs1 hC1 hq1 hW1
      by_cases hid : e.id = id
      · obtain rfl := hid
        have hf := fnd_take_none HNO.out hHE.out rfl
        have HF := Lib.hid hf
        clear hf
        by_cases hme : e.m = m
        · obtain rfl := hme
          cases hd : e.done
          · rw [hd] at f2
            have HD := Lib.hid hd; clear hd
            go_wp2_with fail
            refine bodyPost_ret (v := .tuple #[.int .i64 1, .agg #[.int .u64 0, .int .u64 0, .int .u64 0, .int .u64 0, .int .u64 0, .int .u64 0, .int .u64 0, .int .u64 0, .bool false, .int .u64 0, .int .u64 0, .int .u64 0, .int .u64 0]]) (by simp [results, Try.results33, go_sem, n1, n2, hs1c0, hs1c1, hs1c2, hs1c3, hs1c4, hs1c5, hs1c6, hs1c7, hs1c8, hs1c9, hs1c10, hs1c11, hs1c12]) rfl (RSub.keep HR.out (id := e.id) (c := 1) (s := .zero) (by simp [subCode, HOK.out, HF.out, knCode, HD.out]) (by simp [subSig, HOK.out, HF.out, knSig, HD.out]) (fun b => by simp [subL, HOK.out, HF.out]) ?_)
            have hcc := HC1.out
            repeat (with_reducible first | exact hcc | refine Chg.setCell ?_ (Or.inr (Nat.le_refl _)) _ | apply Chg.drew | apply Chg.drewN | apply Chg.alloc)

          · rw [hd] at f2
            have HD := Lib.hid hd; clear hd
            go_wp2_with fail
            go_region
            all_goals
              go_wp2_with fail
              refine bodyPost_ret (v := .tuple #[.int .i64 4, .agg #[.int .u64 e.s.x0, .int .u64 e.s.x1, .int .u64 e.s.x2, .int .u64 e.s.x3, .int .u64 e.s.y0, .int .u64 e.s.y1, .int .u64 e.s.y2, .int .u64 e.s.y3, .bool e.s.inf, .int .u64 e.s.z0, .int .u64 e.s.z1, .int .u64 e.s.z2, .int .u64 e.s.z3]]) (by simp [results, Try.results33, go_sem, n1, n2, hs1c0, hs1c1, hs1c2, hs1c3, hs1c4, hs1c5, hs1c6, hs1c7, hs1c8, hs1c9, hs1c10, hs1c11, hs1c12]) rfl (RSub.keep HR.out (id := e.id) (c := 4) (s := e.s) (by simp [subCode, HOK.out, HF.out, knCode, HD.out]) (by simp [subSig, HOK.out, HF.out, knSig, HD.out]) (fun b => by simp [subL, HOK.out, HF.out]) ?_)
              have hcc := HC1.out
              repeat (with_reducible first | exact hcc | refine Chg.setCell ?_ (Or.inr (Nat.le_refl _)) _ | apply Chg.drew | apply Chg.drewN | apply Chg.alloc)

        · have hne := str_ne hme
          have HME := Lib.hid hme
          clear hme
          go_wp2_with fail
          refine bodyPost_ret (v := .tuple #[.int .i64 3, .agg #[.int .u64 0, .int .u64 0, .int .u64 0, .int .u64 0, .int .u64 0, .int .u64 0, .int .u64 0, .int .u64 0, .bool false, .int .u64 0, .int .u64 0, .int .u64 0, .int .u64 0]]) (by simp [results, Try.results33, go_sem, n1, n2, hs1c0, hs1c1, hs1c2, hs1c3, hs1c4, hs1c5, hs1c6, hs1c7, hs1c8, hs1c9, hs1c10, hs1c11, hs1c12]) rfl (RSub.keep HR.out (id := e.id) (c := 3) (s := .zero) (by simp [subCode, HOK.out, HF.out, knCode, HME.out]) (by simp [subSig, HOK.out, HF.out, knSig, HME.out]) (fun b => by simp [subL, HOK.out, HF.out]) ?_)
          have hcc := HC1.out
          repeat (with_reducible first | exact hcc | refine Chg.setCell ?_ (Or.inr (Nat.le_refl _)) _ | apply Chg.drew | apply Chg.drewN | apply Chg.alloc)

      · have hne : (e.id == id) = false := by simpa using hid
        have HID := Lib.hid hid
        clear hid
        go_wp2_with fail
        refine ⟨⟨j+1, by omega, by go_num, ?_, HC1.out, HS1.out⟩, by simp [intOf]; omega⟩
        intro e' he'
        rw [take_succ_some hHE.out] at he'
        rcases List.mem_append.1 he' with h | h
        · exact HNO.out e' h
        · rw [List.mem_singleton.1 h]; exact HID.out
    · obtain rfl : n = j := by omega
      have ht : l.take n = l := List.take_of_length_le (by rw [HN.out]; exact Nat.le_refl _)
      have hf : fnd l id = none := fnd_no (by rw [ht] at hno; exact hno)
      have HF := Lib.hid hf
      have hwt := rq_waits base u _ l wr (HR.out.chg0 hC) (by rw [HN.out]; exact hl)
      have HSG := Lib.hid hsg
      obtain ⟨x, hx⟩ : ∃ x, (waits l).length = x := ⟨_, rfl⟩
      have HX := Lib.hid hx
      rw [hx] at hwt h8
      clear hno hC hsg ht hf hx
      go_wp2_with fail
      refine hwt.mono ?_
      rintro e w2 ⟨rfl, hC2⟩
      have hC2' := HC.out.trans hC2
      have hs2 := hC2.has HSG.out (by simp)
      have hsl2 := lt_of_has hs2
      have hs2c0 : w2.cell? ⟨w.heap.size, 0, none⟩ = some (.int .u64 0) := cell_of_has hs2 0; have hs2z0 : w2.frozen? ⟨w.heap.size, 0, none⟩ = false := frozen_of_has hs2 0; have hs2c1 : w2.cell? ⟨w.heap.size, 1, none⟩ = some (.int .u64 0) := cell_of_has hs2 1; have hs2z1 : w2.frozen? ⟨w.heap.size, 1, none⟩ = false := frozen_of_has hs2 1; have hs2c2 : w2.cell? ⟨w.heap.size, 2, none⟩ = some (.int .u64 0) := cell_of_has hs2 2; have hs2z2 : w2.frozen? ⟨w.heap.size, 2, none⟩ = false := frozen_of_has hs2 2; have hs2c3 : w2.cell? ⟨w.heap.size, 3, none⟩ = some (.int .u64 0) := cell_of_has hs2 3; have hs2z3 : w2.frozen? ⟨w.heap.size, 3, none⟩ = false := frozen_of_has hs2 3; have hs2c4 : w2.cell? ⟨w.heap.size, 4, none⟩ = some (.int .u64 0) := cell_of_has hs2 4; have hs2z4 : w2.frozen? ⟨w.heap.size, 4, none⟩ = false := frozen_of_has hs2 4; have hs2c5 : w2.cell? ⟨w.heap.size, 5, none⟩ = some (.int .u64 0) := cell_of_has hs2 5; have hs2z5 : w2.frozen? ⟨w.heap.size, 5, none⟩ = false := frozen_of_has hs2 5; have hs2c6 : w2.cell? ⟨w.heap.size, 6, none⟩ = some (.int .u64 0) := cell_of_has hs2 6; have hs2z6 : w2.frozen? ⟨w.heap.size, 6, none⟩ = false := frozen_of_has hs2 6; have hs2c7 : w2.cell? ⟨w.heap.size, 7, none⟩ = some (.int .u64 0) := cell_of_has hs2 7; have hs2z7 : w2.frozen? ⟨w.heap.size, 7, none⟩ = false := frozen_of_has hs2 7; have hs2c8 : w2.cell? ⟨w.heap.size, 8, none⟩ = some (.bool false) := cell_of_has hs2 8; have hs2z8 : w2.frozen? ⟨w.heap.size, 8, none⟩ = false := frozen_of_has hs2 8; have hs2c9 : w2.cell? ⟨w.heap.size, 9, none⟩ = some (.int .u64 0) := cell_of_has hs2 9; have hs2z9 : w2.frozen? ⟨w.heap.size, 9, none⟩ = false := frozen_of_has hs2 9; have hs2c10 : w2.cell? ⟨w.heap.size, 10, none⟩ = some (.int .u64 0) := cell_of_has hs2 10; have hs2z10 : w2.frozen? ⟨w.heap.size, 10, none⟩ = false := frozen_of_has hs2 10; have hs2c11 : w2.cell? ⟨w.heap.size, 11, none⟩ = some (.int .u64 0) := cell_of_has hs2 11; have hs2z11 : w2.frozen? ⟨w.heap.size, 11, none⟩ = false := frozen_of_has hs2 11; have hs2c12 : w2.cell? ⟨w.heap.size, 12, none⟩ = some (.int .u64 0) := cell_of_has hs2 12; have hs2z12 : w2.frozen? ⟨w.heap.size, 12, none⟩ = false := frozen_of_has hs2 12
      have HS2 := Lib.hid hs2; have HC2 := Lib.hid hC2'
      clear hs2 hC2 hC2' hwt
      by_cases hx8 : x = 8
      · subst hx8
        go_wp2_with fail
        refine bodyPost_ret (v := .tuple #[.int .i64 2, .agg #[.int .u64 0, .int .u64 0, .int .u64 0, .int .u64 0, .int .u64 0, .int .u64 0, .int .u64 0, .int .u64 0, .bool false, .int .u64 0, .int .u64 0, .int .u64 0, .int .u64 0]]) (by simp [results, Try.results33, go_sem, hs2c0, hs2c1, hs2c2, hs2c3, hs2c4, hs2c5, hs2c6, hs2c7, hs2c8, hs2c9, hs2c10, hs2c11, hs2c12]) rfl (RSub.keep HR.out (id := id) (c := 2) (s := .zero) (by simp [subCode, HOK.out, HF.out, HX.out]) (by simp [subSig, HOK.out, HF.out]) (fun b => by simp [subL, HOK.out, HF.out, HX.out]) ?_)
        have hcc := HC2.out
        repeat (with_reducible first | exact hcc | refine Chg.setCell ?_ (Or.inr (Nat.le_refl _)) _ | apply Chg.drew | apply Chg.drewN | apply Chg.alloc)
      · have hR2 := HR.out.chg0 HC2.out
        have d0 : w2.cell? ⟨u, 0, none⟩ = some (.slice a n cap) := by have := cell_of_has hR2.hq 0; rw [HN.out] at this; exact this
        have hun : u ≠ w.heap.size := by omega
        have hul2 : u < w2.heap.size := by omega
        have h80 : ¬ 8 ≤ (x : Int) := by omega
        have hO2 : w2.ownsRow base 85 16 (.slice a n cap) n (oneCells l) := by have hh := hR2.hv; rw [HN.out] at hh; exact hh
        have HR2 := Lib.hid hR2; have HO2 := Lib.hid hO2
        clear hO2
        have n1 : ¬ w.heap.size = u := by omega
        have n2 : ¬ u = w.heap.size := by omega
        clear hR2
        go_wp2_with (at_builtin; go_loud (refine wpList_push rfl (.tmp 54) (.tmp 58) 76 rfl elem_one base rfl (HO2.out.alloc _) w2.heap.size #[.int .i64 id, .string m, .bool false, .int .u64 0, .int .u64 0, .int .u64 0, .int .u64 0, .int .u64 0, .int .u64 0, .int .u64 0, .int .u64 0, .bool false, .int .u64 0, .int .u64 0, .int .u64 0, .int .u64 0] rfl rfl (has_alloc_at (by first | rfl | (simp; done))) (by simp [Value.oneCell']) (by omega) (by omega) (by have := HR2.out.hb; simp; omega) ?_; intro v3 w3 hown3 hgrow3 hat3; obtain ⟨a3, cap3, rfl⟩ := own_shape hown3; have hq3 := grown_has hgrow3 (has_alloc HR2.out.hq) (own_ne HO2.out HR2.out.hq (by decide)); have e1 := cell_of_has hq3 0; have z1 := frozen_of_has hq3 0; have hs3 := grown_has hgrow3 (has_alloc HS2.out) (own_ne HO2.out HS2.out (by decide)); have hs3c0 : w3.cell? ⟨w.heap.size, 0, none⟩ = some (.int .u64 0) := cell_of_has hs3 0; have hs3z0 : w3.frozen? ⟨w.heap.size, 0, none⟩ = false := frozen_of_has hs3 0; have hs3c1 : w3.cell? ⟨w.heap.size, 1, none⟩ = some (.int .u64 0) := cell_of_has hs3 1; have hs3z1 : w3.frozen? ⟨w.heap.size, 1, none⟩ = false := frozen_of_has hs3 1; have hs3c2 : w3.cell? ⟨w.heap.size, 2, none⟩ = some (.int .u64 0) := cell_of_has hs3 2; have hs3z2 : w3.frozen? ⟨w.heap.size, 2, none⟩ = false := frozen_of_has hs3 2; have hs3c3 : w3.cell? ⟨w.heap.size, 3, none⟩ = some (.int .u64 0) := cell_of_has hs3 3; have hs3z3 : w3.frozen? ⟨w.heap.size, 3, none⟩ = false := frozen_of_has hs3 3; have hs3c4 : w3.cell? ⟨w.heap.size, 4, none⟩ = some (.int .u64 0) := cell_of_has hs3 4; have hs3z4 : w3.frozen? ⟨w.heap.size, 4, none⟩ = false := frozen_of_has hs3 4; have hs3c5 : w3.cell? ⟨w.heap.size, 5, none⟩ = some (.int .u64 0) := cell_of_has hs3 5; have hs3z5 : w3.frozen? ⟨w.heap.size, 5, none⟩ = false := frozen_of_has hs3 5; have hs3c6 : w3.cell? ⟨w.heap.size, 6, none⟩ = some (.int .u64 0) := cell_of_has hs3 6; have hs3z6 : w3.frozen? ⟨w.heap.size, 6, none⟩ = false := frozen_of_has hs3 6; have hs3c7 : w3.cell? ⟨w.heap.size, 7, none⟩ = some (.int .u64 0) := cell_of_has hs3 7; have hs3z7 : w3.frozen? ⟨w.heap.size, 7, none⟩ = false := frozen_of_has hs3 7; have hs3c8 : w3.cell? ⟨w.heap.size, 8, none⟩ = some (.bool false) := cell_of_has hs3 8; have hs3z8 : w3.frozen? ⟨w.heap.size, 8, none⟩ = false := frozen_of_has hs3 8; have hs3c9 : w3.cell? ⟨w.heap.size, 9, none⟩ = some (.int .u64 0) := cell_of_has hs3 9; have hs3z9 : w3.frozen? ⟨w.heap.size, 9, none⟩ = false := frozen_of_has hs3 9; have hs3c10 : w3.cell? ⟨w.heap.size, 10, none⟩ = some (.int .u64 0) := cell_of_has hs3 10; have hs3z10 : w3.frozen? ⟨w.heap.size, 10, none⟩ = false := frozen_of_has hs3 10; have hs3c11 : w3.cell? ⟨w.heap.size, 11, none⟩ = some (.int .u64 0) := cell_of_has hs3 11; have hs3z11 : w3.frozen? ⟨w.heap.size, 11, none⟩ = false := frozen_of_has hs3 11; have hs3c12 : w3.cell? ⟨w.heap.size, 12, none⟩ = some (.int .u64 0) := cell_of_has hs3 12; have hs3z12 : w3.frozen? ⟨w.heap.size, 12, none⟩ = false := frozen_of_has hs3 12; clear hs2c0 hs2c1 hs2c2 hs2c3 hs2c4 hs2c5 hs2c6 hs2c7 hs2c8 hs2c9 hs2c10 hs2c11 hs2c12; clear hs2z0 hs2z1 hs2z2 hs2z3 hs2z4 hs2z5 hs2z6 hs2z7 hs2z8 hs2z9 hs2z10 hs2z11 hs2z12; simp only [List.getElem?_toArray, List.getElem?_cons_zero] at e1; have HQ3 := Lib.hid hq3; have HOWN3 := Lib.hid hown3; have HG3 := Lib.hid hgrow3; have HAT3 := Lib.hid hat3; have HS3 := Lib.hid hs3; clear hq3 hown3 hgrow3 hat3 hs3))
        refine bodyPost_ret (v := .tuple #[.int .i64 1, .agg #[.int .u64 0, .int .u64 0, .int .u64 0, .int .u64 0, .int .u64 0, .int .u64 0, .int .u64 0, .int .u64 0, .bool false, .int .u64 0, .int .u64 0, .int .u64 0, .int .u64 0]]) (by simp [results, Try.results33, go_sem, n1, n2, hs3c0, hs3c1, hs3c2, hs3c3, hs3c4, hs3c5, hs3c6, hs3c7, hs3c8, hs3c9, hs3c10, hs3c11, hs3c12]) rfl ?_
        exact rsub_new HR.out HOK.out HF.out (by rw [HX.out]; exact hx8) HC2.out (by rw [HN.out]; exact HOWN3.out) (by rw [HN.out]; exact HG3.out) (by rw [HN.out]; exact HAT3.out) HQ3.out (by omega) (fun S hS => by
          have hrr := Chg.refl S (w3.setCell ⟨u, 0, none⟩ (.slice a3 (n + 1) cap3))
          repeat (with_reducible first | exact hrr | refine Chg.setCell ?_ (Or.inl hS) _ | apply Chg.drew | apply Chg.drewN | apply Chg.alloc))

end Go.Proofs.Ytgiackgdceanhaa
