/- The walks of the reference's queue: Finish. -/
import Derived.Test.YtgiackgdceanhaaQueueP
namespace Go.Proofs.Ytgiackgdceanhaa
set_option linter.unusedVariables false
set_option linter.unusedSimpArgs false
open Go.RowKit

theorem rq_submit (base u : Nat) (rv : Value) (l : List Ent) (id : Int) (m : ByteArray) (w : World) (hR : RQ w base u rv l) (hl : l.length ≤ 1000000) (hn : (l.map Ent.id).Nodup) (h8 : (waits l).length ≤ 8) :
    Calls Try.prog 33 #[.pointer (some ⟨u, 0, none⟩), .int .i64 id, .string m] w (RSub base u rv l id m w) := by
  by_cases hok : okReq id m
  · exact rq_submit_ok base u rv l id m w hR hl hn h8 hok
  · exact rq_submit_bad base u rv l id m w hR hok

theorem split_at {α : Type} {l : List α} {j : Nat} {x : α} (h : l[j]? = some x) : l = l.take j ++ x :: l.drop (j + 1) := by
  obtain ⟨hj, hx⟩ := List.getElem?_eq_some_iff.1 h
  rw [← hx, List.getElem_cons_drop, List.take_append_drop]

theorem finL_at {l : List Ent} {j : Nat} {e : Ent} {s : Sg} (hn : (l.map Ent.id).Nodup) (h : l[j]? = some e) : finL l e.id s = l.take j ++ { e with done := true, s := s } :: l.drop (j + 1) := by
  have hs := split_at h
  rw [hs, List.map_append, List.map_cons, List.nodup_append] at hn
  obtain ⟨_, h2, h3⟩ := hn
  rw [List.nodup_cons] at h2
  have key : ∀ (k : List Ent), (∀ x ∈ k, x.id ≠ e.id) → finL k e.id s = k := by
    intro k hk
    unfold finL
    conv => rhs; rw [← List.map_id k]
    apply List.map_congr_left
    intro x hx
    rw [if_neg (hk x hx)]; rfl
  have e1 : finL l e.id s = finL (l.take j) e.id s ++ { e with done := true, s := s } :: finL (l.drop (j + 1)) e.id s := by
    conv => lhs; rw [hs]
    simp [finL]
  rw [e1, key _ (fun x hx hxe => h3 x.id (List.mem_map.2 ⟨x, hx, rfl⟩) e.id (by simp) hxe), key _ (fun x hx hxe => h2.1 (List.mem_map.2 ⟨x, hx, hxe⟩))]

def Sg.list (s : Sg) : List Value := [.int .u64 s.x0, .int .u64 s.x1, .int .u64 s.x2, .int .u64 s.x3, .int .u64 s.y0, .int .u64 s.y1, .int .u64 s.y2, .int .u64 s.y3, .bool s.inf, .int .u64 s.z0, .int .u64 s.z1, .int .u64 s.z2, .int .u64 s.z3]

theorem splice_lem {α : Type} (A M V B : List α) (hV : V.length = M.length) : (A ++ M ++ B).take A.length ++ V ++ (A ++ M ++ B).drop (A.length + V.length) = A ++ V ++ B := by
  rw [hV, List.append_assoc A M B, List.take_left' rfl, ← List.append_assoc A M B, List.drop_left' (by simp)]

theorem has_ne_own {w : World} {b : Nat} {cs : Array Value} {t : TypeId} {f : Nat × Nat} {base : Nat} {e : TypeId} {size g n cap : Nat} {xs : List Value} (hb : w.heap[b]? = some (.cells cs t f)) (h : w.ownsRow base e size (.slice (some ⟨g, 0, none⟩) n cap) n xs) (hne : e ≠ t) : b ≠ g := by
  intro hx
  exact own_ne h hb hne (by simp [Value.ownBlock, hx])

theorem slice_inj {g g' n n' c c' : Nat} (h : Value.slice (some ⟨g, 0, none⟩) n c = Value.slice (some ⟨g', 0, none⟩) n' c') : g = g' ∧ n = n' ∧ c = c' := by
  injection h with h1 h2 h3
  injection h1 with h1
  injection h1 with h1
  exact ⟨h1, h2, h3⟩

/-- The reference's queue once one is done. -/
theorem rq_fin {base u g n cap j : Nat} {l : List Ent} {e : Ent} {s : Sg} {w0 w : World} (hR : RQ w base u (.slice (some ⟨g, 0, none⟩) n cap) l) (hn : (l.map Ent.id).Nodup) (h : l[j]? = some e) (hln : l.length = n) :
    RQ (w.setCells g (j * 16 + 2) (.bool true :: s.list)) base u (.slice (some ⟨g, 0, none⟩) n cap) (finL l e.id s) := by
  have hj := (List.getElem?_eq_some_iff.1 h).1
  have hfl : (finL l e.id s).length = l.length := by simp [finL]
  have hgu : u ≠ g := by
    intro hx
    exact own_ne hR.hv hR.hq (by decide) (by simp [Value.ownBlock, hx])
  rcases hR.hv.2 with ⟨h0, _⟩ | ⟨g', cap', cur, hv, hb, hg, hcn, hcm, hcs, hct⟩
  · cases h0
  · obtain ⟨hv1, hv2, hv3⟩ := slice_inj hv
    subst hv1; subst hv3
    have hlen : (oneCells l).length = l.length * 16 := flat_len Ent.one 16 (fun _ => rfl) l
    obtain ⟨cur', hg', hs', ht'⟩ := has_setCells g _ (.bool true :: s.list) (j * 16 + 2) w cur hg (by simp [Sg.list]; omega)
    have hC : Chg [g] w (w.setCells g (j * 16 + 2) (.bool true :: s.list)) := chg_setCells g (by simp) _ _ w w (Chg.refl _ _)
    refine ⟨hC.has hR.hq (by simpa using hgu), ?_, hR.hb⟩
    rw [hfl]
    have hone : (oneCells (finL l e.id s)).length = (finL l e.id s).length * 16 := flat_len Ent.one 16 (fun _ => rfl) _
    refine ⟨by rw [hone, hfl], .inr ⟨g, cap, cur', by rw [hln], hb, hg', hcn, hcm, by rw [hs']; exact hcs, ?_⟩⟩
    rw [ht', finL_at hn h]
    have hsp : oneCells l = oneCells (l.take j) ++ ([.int .i64 e.id, .string e.m] ++ (.bool e.done :: e.s.list) ++ oneCells (l.drop (j + 1))) := by
      conv => lhs; rw [split_at h]
      simp [oneCells, Ent.one, Sg.list]
    have hA : (oneCells (l.take j)).length = j * 16 := by
      rw [show (oneCells (l.take j)).length = (l.take j).length * 16 from flat_len Ent.one 16 (fun _ => rfl) _, List.length_take, Nat.min_eq_left (by omega)]
    have hA2 : (oneCells (l.take j) ++ [Value.int .i64 e.id, Value.string e.m]).length = j * 16 + 2 := by rw [List.length_append, hA]; rfl
    have hcur : cur.toList = (oneCells (l.take j) ++ [Value.int .i64 e.id, Value.string e.m]) ++ (Value.bool e.done :: e.s.list) ++ (oneCells (l.drop (j + 1)) ++ cur.toList.drop (l.length * 16)) := by
      have h1 : cur.toList = oneCells l ++ cur.toList.drop (l.length * 16) := by rw [← hct, List.take_append_drop]
      rw [hsp] at h1
      refine h1.trans ?_
      simp only [List.append_assoc, List.cons_append, List.nil_append]
    generalize cur.toList.drop (l.length * 16) = T at hcur
    have e3 : (oneCells (l.take j) ++ [Value.int .i64 e.id, Value.string e.m]) ++ (Value.bool true :: s.list) ++ (oneCells (l.drop (j + 1)) ++ T) = oneCells (l.take j ++ { e with done := true, s := s } :: l.drop (j + 1)) ++ T := by
      simp [oneCells, Ent.one, Sg.list]
    rw [hcur, ← hA2, splice_lem _ (Value.bool e.done :: e.s.list) (Value.bool true :: s.list) _ rfl, e3]
    refine List.take_left' ?_
    rw [← finL_at hn h, hone, hfl]

def RFin (base u : Nat) (rv : Value) (l : List Ent) (id : Int) (s : Sg) (w : World) (e : Ending) (w' : World) : Prop :=
  (id ∉ waits l ∧ e = .returned (.int .i64 6) ∧ Chg [] w w') ∨ (id ∈ waits l ∧ e = .returned (.int .i64 0) ∧ RQ w' base u rv (finL l id s) ∧ Chg (rv.ownBlock.toList) w w')

theorem waits_at {l : List Ent} {e : Ent} (hn : (l.map Ent.id).Nodup) (he : e ∈ l) : e.id ∈ waits l ↔ e.done = false := by
  constructor
  · intro h
    unfold waits at h
    obtain ⟨e', h1, h2⟩ := List.mem_map.1 h
    have h3 := List.mem_filter.1 h1
    have := ent_same hn h3.1 he h2
    subst this
    simpa using h3.2
  · intro h
    unfold waits
    exact List.mem_map.2 ⟨e, List.mem_filter.2 ⟨he, by simp [h]⟩, rfl⟩

set_option maxRecDepth 100000 in
set_option maxHeartbeats 8000000 in
theorem rq_finish (base u : Nat) (rv : Value) (l : List Ent) (id : Int) (s : Sg) (w : World) (hR : RQ w base u rv l) (hl : l.length ≤ 1000000) (hn : (l.map Ent.id).Nodup) :
    Calls Try.prog 34 #[.pointer (some ⟨u, 0, none⟩), .int .i64 id, .agg #[.int .u64 s.x0, .int .u64 s.x1, .int .u64 s.x2, .int .u64 s.x3, .int .u64 s.y0, .int .u64 s.y1, .int .u64 s.y2, .int .u64 s.y3, .bool s.inf, .int .u64 s.z0, .int .u64 s.z1, .int .u64 s.z2, .int .u64 s.z3]] w (RFin base u rv l id s w) := by
  obtain ⟨a, cap, rfl⟩ := own_shape hR.hv
  have c0 : w.cell? ⟨u, 0, none⟩ = some (.slice a l.length cap) := cell_of_has hR.hq 0
  have hul := lt_of_has hR.hq
  obtain ⟨n, hnn⟩ : ∃ n, l.length = n := ⟨_, rfl⟩
  have HR := Lib.hid hR; have HN := Lib.hid hnn; have HND := Lib.hid hn
  rw [hnn] at c0 hl
  clear hR hnn hn
  go_enter Try.func34, Try.ntmps34
  go_wp2_with fail
  go_loopw [14] (fun i wr => ∃ j : Nat, j ≤ n ∧ i = .int .i64 j ∧ (∀ e ∈ l.take j, e.id = id → e.done = true) ∧ Chg [] w wr ∧ wr.heap[w.heap.size]? = some (.cells #[.int .u64 s.x0, .int .u64 s.x1, .int .u64 s.x2, .int .u64 s.x3, .int .u64 s.y0, .int .u64 s.y1, .int .u64 s.y2, .int .u64 s.y3, .bool s.inf, .int .u64 s.z0, .int .u64 s.z1, .int .u64 s.z2, .int .u64 s.z3] 32 (0, 0))) (fun i _ => n - (intOf i).toNat)
  case atStart => exact ⟨0, by omega, rfl, by simp, (by repeat (with_reducible first | exact Chg.refl _ _ | refine Chg.setCell ?_ (Or.inr (Nat.le_refl _)) _ | apply Chg.drew | apply Chg.drewN | apply Chg.alloc)), has_alloc_new _ _⟩
  case round =>
    obtain ⟨j, hj, rfl, hno, hC, hsg⟩ := hrel
    have HNO := Lib.hid hno; have HC := Lib.hid hC
    have hsl := lt_of_has hsg
    by_cases hlt : j < n
    · obtain ⟨e, he⟩ : ∃ e, l[j]? = some e := ⟨_, List.getElem?_eq_getElem (by rw [HN.out]; exact hlt)⟩
      have hown := (HR.out.chg0 hC).hv
      rw [HN.out] at hown
      obtain ⟨g, rfl, hg, hcd⟩ := own_one hown he
      have hHE := Lib.hid he
      have k0 : wr.cell? ⟨g, j * 16, none⟩ = some (.int .i64 e.id) := hcd 0 (by omega); have k1 : wr.cell? ⟨g, j * 16 + 1, none⟩ = some (.string e.m) := hcd 1 (by omega); have k2 : wr.cell? ⟨g, j * 16 + 2, none⟩ = some (.bool e.done) := hcd 2 (by omega); have k3 : wr.cell? ⟨g, j * 16 + 3, none⟩ = some (.int .u64 e.s.x0) := hcd 3 (by omega); have k4 : wr.cell? ⟨g, j * 16 + 4, none⟩ = some (.int .u64 e.s.x1) := hcd 4 (by omega); have k5 : wr.cell? ⟨g, j * 16 + 5, none⟩ = some (.int .u64 e.s.x2) := hcd 5 (by omega); have k6 : wr.cell? ⟨g, j * 16 + 6, none⟩ = some (.int .u64 e.s.x3) := hcd 6 (by omega); have k7 : wr.cell? ⟨g, j * 16 + 7, none⟩ = some (.int .u64 e.s.y0) := hcd 7 (by omega); have k8 : wr.cell? ⟨g, j * 16 + 8, none⟩ = some (.int .u64 e.s.y1) := hcd 8 (by omega); have k9 : wr.cell? ⟨g, j * 16 + 9, none⟩ = some (.int .u64 e.s.y2) := hcd 9 (by omega); have k10 : wr.cell? ⟨g, j * 16 + 10, none⟩ = some (.int .u64 e.s.y3) := hcd 10 (by omega); have k11 : wr.cell? ⟨g, j * 16 + 11, none⟩ = some (.bool e.s.inf) := hcd 11 (by omega); have k12 : wr.cell? ⟨g, j * 16 + 12, none⟩ = some (.int .u64 e.s.z0) := hcd 12 (by omega); have k13 : wr.cell? ⟨g, j * 16 + 13, none⟩ = some (.int .u64 e.s.z1) := hcd 13 (by omega); have k14 : wr.cell? ⟨g, j * 16 + 14, none⟩ = some (.int .u64 e.s.z2) := hcd 14 (by omega); have k15 : wr.cell? ⟨g, j * 16 + 15, none⟩ = some (.int .u64 e.s.z3) := hcd 15 (by omega)
      have HSG := Lib.hid hsg
      have hgw := hown
      have HGW := Lib.hid hgw
      clear hcd he hown hC hno hsg hgw
      go_upto_region 4 with fail
      obtain ⟨W1, hW1⟩ : ∃ W1, wr.alloc (.cells #[.int .i64 e.id, .string e.m, .bool e.done, .int .u64 e.s.x0, .int .u64 e.s.x1, .int .u64 e.s.x2, .int .u64 e.s.x3, .int .u64 e.s.y0, .int .u64 e.s.y1, .int .u64 e.s.y2, .int .u64 e.s.y3, .bool e.s.inf, .int .u64 e.s.z0, .int .u64 e.s.z1, .int .u64 e.s.z2, .int .u64 e.s.z3] 85) = W1 := ⟨_, rfl⟩
      rw [hW1]
      have hC1 : Chg [] w W1 := by rw [← hW1]; exact HC.out.alloc _
      have hq1 : W1.heap[wr.heap.size]? = some (.cells #[.int .i64 e.id, .string e.m, .bool e.done, .int .u64 e.s.x0, .int .u64 e.s.x1, .int .u64 e.s.x2, .int .u64 e.s.x3, .int .u64 e.s.y0, .int .u64 e.s.y1, .int .u64 e.s.y2, .int .u64 e.s.y3, .bool e.s.inf, .int .u64 e.s.z0, .int .u64 e.s.z1, .int .u64 e.s.z2, .int .u64 e.s.z3] 85 (0, 0)) := by rw [← hW1]; exact has_alloc_new _ _
      have hs1 : W1.heap[w.heap.size]? = some (.cells #[.int .u64 s.x0, .int .u64 s.x1, .int .u64 s.x2, .int .u64 s.x3, .int .u64 s.y0, .int .u64 s.y1, .int .u64 s.y2, .int .u64 s.y3, .bool s.inf, .int .u64 s.z0, .int .u64 s.z1, .int .u64 s.z2, .int .u64 s.z3] 32 (0, 0)) := by rw [← hW1]; exact has_alloc HSG.out
      have hu1 : W1.cell? ⟨u, 0, none⟩ = some (.slice (some ⟨g, 0, none⟩) n cap) := hC1.cell c0 (by simp)
      have hown1 := (HR.out.chg0 hC1).hv
      rw [HN.out] at hown1
      obtain ⟨g', hgg, hg1, hcd⟩ := own_one hown1 hHE.out
      injection hgg with hgg
      injection hgg with hgg
      subst hgg
      have hfz := fun k => World.ownsRow.frozenAt hown1 k
      clear k0 k1 k2 k3 k4 k5 k6 k7 k8 k9 k10 k11 k12 k13 k14 k15
      have f0 : W1.cell? ⟨wr.heap.size, 0, none⟩ = some (.int .i64 e.id) := cell_of_has hq1 0; have f1 : W1.cell? ⟨wr.heap.size, 1, none⟩ = some (.string e.m) := cell_of_has hq1 1; have f2 : W1.cell? ⟨wr.heap.size, 2, none⟩ = some (.bool e.done) := cell_of_has hq1 2; have f3 : W1.cell? ⟨wr.heap.size, 3, none⟩ = some (.int .u64 e.s.x0) := cell_of_has hq1 3; have f4 : W1.cell? ⟨wr.heap.size, 4, none⟩ = some (.int .u64 e.s.x1) := cell_of_has hq1 4; have f5 : W1.cell? ⟨wr.heap.size, 5, none⟩ = some (.int .u64 e.s.x2) := cell_of_has hq1 5; have f6 : W1.cell? ⟨wr.heap.size, 6, none⟩ = some (.int .u64 e.s.x3) := cell_of_has hq1 6; have f7 : W1.cell? ⟨wr.heap.size, 7, none⟩ = some (.int .u64 e.s.y0) := cell_of_has hq1 7; have f8 : W1.cell? ⟨wr.heap.size, 8, none⟩ = some (.int .u64 e.s.y1) := cell_of_has hq1 8; have f9 : W1.cell? ⟨wr.heap.size, 9, none⟩ = some (.int .u64 e.s.y2) := cell_of_has hq1 9; have f10 : W1.cell? ⟨wr.heap.size, 10, none⟩ = some (.int .u64 e.s.y3) := cell_of_has hq1 10; have f11 : W1.cell? ⟨wr.heap.size, 11, none⟩ = some (.bool e.s.inf) := cell_of_has hq1 11; have f12 : W1.cell? ⟨wr.heap.size, 12, none⟩ = some (.int .u64 e.s.z0) := cell_of_has hq1 12; have f13 : W1.cell? ⟨wr.heap.size, 13, none⟩ = some (.int .u64 e.s.z1) := cell_of_has hq1 13; have f14 : W1.cell? ⟨wr.heap.size, 14, none⟩ = some (.int .u64 e.s.z2) := cell_of_has hq1 14; have f15 : W1.cell? ⟨wr.heap.size, 15, none⟩ = some (.int .u64 e.s.z3) := cell_of_has hq1 15
      have hs1c0 : W1.cell? ⟨w.heap.size, 0, none⟩ = some (.int .u64 s.x0) := cell_of_has hs1 0; have hs1z0 : W1.frozen? ⟨w.heap.size, 0, none⟩ = false := frozen_of_has hs1 0; have hs1c1 : W1.cell? ⟨w.heap.size, 1, none⟩ = some (.int .u64 s.x1) := cell_of_has hs1 1; have hs1z1 : W1.frozen? ⟨w.heap.size, 1, none⟩ = false := frozen_of_has hs1 1; have hs1c2 : W1.cell? ⟨w.heap.size, 2, none⟩ = some (.int .u64 s.x2) := cell_of_has hs1 2; have hs1z2 : W1.frozen? ⟨w.heap.size, 2, none⟩ = false := frozen_of_has hs1 2; have hs1c3 : W1.cell? ⟨w.heap.size, 3, none⟩ = some (.int .u64 s.x3) := cell_of_has hs1 3; have hs1z3 : W1.frozen? ⟨w.heap.size, 3, none⟩ = false := frozen_of_has hs1 3; have hs1c4 : W1.cell? ⟨w.heap.size, 4, none⟩ = some (.int .u64 s.y0) := cell_of_has hs1 4; have hs1z4 : W1.frozen? ⟨w.heap.size, 4, none⟩ = false := frozen_of_has hs1 4; have hs1c5 : W1.cell? ⟨w.heap.size, 5, none⟩ = some (.int .u64 s.y1) := cell_of_has hs1 5; have hs1z5 : W1.frozen? ⟨w.heap.size, 5, none⟩ = false := frozen_of_has hs1 5; have hs1c6 : W1.cell? ⟨w.heap.size, 6, none⟩ = some (.int .u64 s.y2) := cell_of_has hs1 6; have hs1z6 : W1.frozen? ⟨w.heap.size, 6, none⟩ = false := frozen_of_has hs1 6; have hs1c7 : W1.cell? ⟨w.heap.size, 7, none⟩ = some (.int .u64 s.y3) := cell_of_has hs1 7; have hs1z7 : W1.frozen? ⟨w.heap.size, 7, none⟩ = false := frozen_of_has hs1 7; have hs1c8 : W1.cell? ⟨w.heap.size, 8, none⟩ = some (.bool s.inf) := cell_of_has hs1 8; have hs1z8 : W1.frozen? ⟨w.heap.size, 8, none⟩ = false := frozen_of_has hs1 8; have hs1c9 : W1.cell? ⟨w.heap.size, 9, none⟩ = some (.int .u64 s.z0) := cell_of_has hs1 9; have hs1z9 : W1.frozen? ⟨w.heap.size, 9, none⟩ = false := frozen_of_has hs1 9; have hs1c10 : W1.cell? ⟨w.heap.size, 10, none⟩ = some (.int .u64 s.z1) := cell_of_has hs1 10; have hs1z10 : W1.frozen? ⟨w.heap.size, 10, none⟩ = false := frozen_of_has hs1 10; have hs1c11 : W1.cell? ⟨w.heap.size, 11, none⟩ = some (.int .u64 s.z2) := cell_of_has hs1 11; have hs1z11 : W1.frozen? ⟨w.heap.size, 11, none⟩ = false := frozen_of_has hs1 11; have hs1c12 : W1.cell? ⟨w.heap.size, 12, none⟩ = some (.int .u64 s.z3) := cell_of_has hs1 12; have hs1z12 : W1.frozen? ⟨w.heap.size, 12, none⟩ = false := frozen_of_has hs1 12
      have d0 : W1.cell? ⟨g, j * 16, none⟩ = some (.int .i64 e.id) := hcd 0 (by omega); have d1 : W1.cell? ⟨g, j * 16 + 1, none⟩ = some (.string e.m) := hcd 1 (by omega); have d2 : W1.cell? ⟨g, j * 16 + 2, none⟩ = some (.bool e.done) := hcd 2 (by omega); have d3 : W1.cell? ⟨g, j * 16 + 3, none⟩ = some (.int .u64 e.s.x0) := hcd 3 (by omega); have d4 : W1.cell? ⟨g, j * 16 + 4, none⟩ = some (.int .u64 e.s.x1) := hcd 4 (by omega); have d5 : W1.cell? ⟨g, j * 16 + 5, none⟩ = some (.int .u64 e.s.x2) := hcd 5 (by omega); have d6 : W1.cell? ⟨g, j * 16 + 6, none⟩ = some (.int .u64 e.s.x3) := hcd 6 (by omega); have d7 : W1.cell? ⟨g, j * 16 + 7, none⟩ = some (.int .u64 e.s.y0) := hcd 7 (by omega); have d8 : W1.cell? ⟨g, j * 16 + 8, none⟩ = some (.int .u64 e.s.y1) := hcd 8 (by omega); have d9 : W1.cell? ⟨g, j * 16 + 9, none⟩ = some (.int .u64 e.s.y2) := hcd 9 (by omega); have d10 : W1.cell? ⟨g, j * 16 + 10, none⟩ = some (.int .u64 e.s.y3) := hcd 10 (by omega); have d11 : W1.cell? ⟨g, j * 16 + 11, none⟩ = some (.bool e.s.inf) := hcd 11 (by omega); have d12 : W1.cell? ⟨g, j * 16 + 12, none⟩ = some (.int .u64 e.s.z0) := hcd 12 (by omega); have d13 : W1.cell? ⟨g, j * 16 + 13, none⟩ = some (.int .u64 e.s.z1) := hcd 13 (by omega); have d14 : W1.cell? ⟨g, j * 16 + 14, none⟩ = some (.int .u64 e.s.z2) := hcd 14 (by omega); have d15 : W1.cell? ⟨g, j * 16 + 15, none⟩ = some (.int .u64 e.s.z3) := hcd 15 (by omega)
      have z2 := hfz (j * 16 + 2); have z3 := hfz (j * 16 + 3); have z4 := hfz (j * 16 + 4); have z5 := hfz (j * 16 + 5); have z6 := hfz (j * 16 + 6); have z7 := hfz (j * 16 + 7); have z8 := hfz (j * 16 + 8); have z9 := hfz (j * 16 + 9); have z10 := hfz (j * 16 + 10); have z11 := hfz (j * 16 + 11); have z12 := hfz (j * 16 + 12); have z13 := hfz (j * 16 + 13); have z14 := hfz (j * 16 + 14); have z15 := hfz (j * 16 + 15)
      have hl1 := lt_of_has hq1
      have hug : u ≠ g := has_ne_own (HR.out.chg0 hC1).hq hown1 (by decide)
      have hsgg : w.heap.size ≠ g := has_ne_own hs1 hown1 (by decide)
      have n1 : ¬ u = g := hug
      have n2 : ¬ g = u := fun h => hug h.symm
      have n3 : ¬ w.heap.size = g := hsgg
      have n4 : ¬ g = w.heap.size := fun h => hsgg h.symm
      have HS1 := Lib.hid hs1; have HC1 := Lib.hid hC1
      clear hs1 hC1 hq1 hW1 hcd hown1 hfz hug hsgg
      by_cases hid : e.id = id
      · obtain rfl := hid
        have hwa := waits_at HND.out (List.mem_of_getElem? hHE.out)
        have HWA := Lib.hid hwa; clear hwa
        cases hd : e.done
        · rw [hd] at f2
          have HD := Lib.hid hd; clear hd
          go_wp2_with fail
          go_region
          all_goals
            go_wp2_with fail
            go_ret
            refine Or.inr ⟨HWA.out.2 HD.out, rfl, ?_, ?_⟩
            · have hr1 := HR.out.chg0 HC1.out
              rw [HN.out] at hr1
              have hfin := rq_fin (s := s) (w0 := w) hr1 HND.out hHE.out HN.out
              rw [HN.out]
              exact hfin.chg0 ((Chg.refl [] _).drew)
            · rw [HN.out]
              have hc := HC1.out.mono (T := (Value.slice (some ⟨g, 0, none⟩) n cap).ownBlock.toList) (by simp)
              repeat (with_reducible first | exact hc | refine Chg.setCell ?_ ?_ _ | apply Chg.drew | apply Chg.drewN | apply Chg.alloc)
              all_goals exact Or.inl (by simp [Value.ownBlock])
        · rw [hd] at f2
          have HD := Lib.hid hd; clear hd
          go_wp2_with fail
          refine ⟨⟨j+1, by omega, by go_num, ?_, HC1.out, HS1.out⟩, by simp [intOf]; omega⟩
          intro e' he' hid'
          rw [take_succ_some hHE.out] at he'
          rcases List.mem_append.1 he' with h | h
          · exact HNO.out e' h hid'
          · rw [List.mem_singleton.1 h]; exact HD.out
      · have hne : (e.id == id) = false := by simpa using hid
        have HID := Lib.hid hid
        clear hid
        go_wp2_with fail
        refine ⟨⟨j+1, by omega, by go_num, ?_, HC1.out, HS1.out⟩, by simp [intOf]; omega⟩
        intro e' he' hid'
        rw [take_succ_some hHE.out] at he'
        rcases List.mem_append.1 he' with h | h
        · exact HNO.out e' h hid'
        · rw [List.mem_singleton.1 h] at hid'; exact absurd hid' HID.out
    · obtain rfl : n = j := by omega
      have ht : l.take n = l := List.take_of_length_le (by rw [HN.out]; exact Nat.le_refl _)
      rw [ht] at hno
      have hnw : id ∉ waits l := by
        intro h
        unfold waits at h
        obtain ⟨e', h1, h2⟩ := List.mem_map.1 h
        have h3 := List.mem_filter.1 h1
        have h4 := hno e' h3.1 h2
        rw [h4] at h3
        simp at h3
      have HNW := Lib.hid hnw
      clear hno hnw ht
      go_wp2_with fail
      go_ret
      exact Or.inl ⟨HNW.out, rfl, hC⟩

end Go.Proofs.Ytgiackgdceanhaa
