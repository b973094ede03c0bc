/- QueueSteps: the queue and the reference's queue beside one another. -/
import Derived.Test.YtgiackgdceanhaaQueueS
import Derived.Test.YtgiackgdceanhaaQueueM
namespace Go.Proofs.Ytgiackgdceanhaa
set_option linter.unusedVariables false
set_option linter.unusedSimpArgs false
open Go.RowKit

theorem QN.ref {w w' : World} {base base' q r u : Nat} {v rv : Value} {l l' : List Ent} (h : QN w base q r v l) (hr : RQ w base' u rv l') (hC : Chg (u :: rv.ownBlock.toList) w w') : QN w' base q r v l := by
  refine h.chg hC ?_ ?_ ?_ ?_
  · intro hm
    rcases List.mem_cons.1 hm with hm | hm
    · exact has_ne h.hq hr.hq (by decide) hm
    · exact own_ne hr.hv h.hq (by decide) (Option.mem_toList.1 hm).symm
  · intro hm
    rcases List.mem_cons.1 hm with hm | hm
    · exact h.hm.ne hr.hq hm
    · exact own_ne_map hr.hv h.hm (Option.mem_toList.1 hm).symm
  · intro e he hm
    rcases List.mem_cons.1 hm with hm | hm
    · exact has_ne (h.hk e he) hr.hq (by decide) hm
    · exact own_ne hr.hv (h.hk e he) (by decide) (Option.mem_toList.1 hm).symm
  · intro b hb hm
    rcases List.mem_cons.1 hm with hm | hm
    · subst hm; exact own_ne h.hv hr.hq (by decide) hb.symm
    · exact own_own_ne h.hv hr.hv (by decide) b hb (Option.mem_toList.1 hm)

theorem RQ.q {w w' : World} {base base' q r u : Nat} {v rv : Value} {l l' : List Ent} {S : List Nat} (hr : RQ w base' u rv l') (h : QN w base q r v l) (hC : Chg S w w')
    (hS : ∀ x ∈ S, x = q ∨ x = r ∨ v.ownBlock = some x ∨ ∃ e ∈ l, x = e.b) : RQ w' base' u rv l' := by
  refine hr.chg hC ?_ ?_
  · intro hm
    rcases hS _ hm with hx | hx | hx | ⟨e, he, hx⟩
    · exact has_ne h.hq hr.hq (by decide) hx.symm
    · exact h.hm.ne hr.hq hx.symm
    · exact own_ne h.hv hr.hq (by decide) hx.symm
    · exact has_ne (h.hk e he) hr.hq (by decide) hx.symm
  · intro b hb hm
    rcases hS _ hm with hx | hx | hx | ⟨e, he, hx⟩
    · subst hx; exact own_ne hr.hv h.hq (by decide) hb.symm
    · subst hx; exact own_ne_map hr.hv h.hm hb.symm
    · exact own_own_ne h.hv hr.hv (by decide) b hx hb
    · subst hx; exact own_ne hr.hv (h.hk e he) (by decide) hb.symm

/-- Both queues, each with its own list. -/
structure Bo (w : World) (base q r u : Nat) (v rv : Value) (lq lr : List Ent) : Prop where
  hQ : QN w base q r v lq
  hR : RQ w base u rv lr

theorem Bo.chg0 {w w' : World} {base q r u : Nat} {v rv : Value} {lq lr : List Ent} (h : Bo w base q r u v rv lq lr) (hC : Chg [] w w') : Bo w' base q r u v rv lq lr := ⟨h.hQ.chg0 hC, h.hR.chg0 hC⟩

/-- A block of another kind, that is none of either queue. -/
theorem Bo.far {w : World} {base q r u : Nat} {v rv : Value} {lq lr : List Ent} (h : Bo w base q r u v rv lq lr) {b : Nat} {cs : Array Value} {t : TypeId} (hb : w.heap[b]? = some (.cells cs t (0, 0)))
    (h1 : t ≠ 89) (h2 : t ≠ 3) (h3 : t ≠ 93) (h4 : t ≠ 78) (h5 : t ≠ 85) :
    b ≠ q ∧ b ≠ r ∧ v.ownBlock ≠ some b ∧ (∀ e ∈ lq, b ≠ e.b) ∧ b ≠ u ∧ rv.ownBlock ≠ some b :=
  ⟨has_ne hb h.hQ.hq h1, fun hx => h.hQ.hm.ne hb hx.symm, fun hx => own_ne h.hQ.hv hb (fun e => h2 e.symm) hx.symm, fun e he => has_ne hb (h.hQ.hk e he) h3, has_ne hb h.hR.hq h4, fun hx => own_ne h.hR.hv hb (fun e => h5 e.symm) hx.symm⟩

/-- What a call on the queue may change. -/
def qSet (q r : Nat) (v : Value) (l : List Ent) : List Nat := q :: r :: v.ownBlock.toList ++ l.map Ent.b

theorem mem_qSet {q r : Nat} {v : Value} {l : List Ent} {x : Nat} (h : x ∈ qSet q r v l) : x = q ∨ x = r ∨ v.ownBlock = some x ∨ ∃ e ∈ l, x = e.b := by
  unfold qSet at h
  rcases List.mem_append.1 h with h | h
  · rcases List.mem_cons.1 h with h | h
    · exact Or.inl h
    · rcases List.mem_cons.1 h with h | h
      · exact Or.inr (Or.inl h)
      · exact Or.inr (Or.inr (Or.inl (Option.mem_toList.1 h)))
  · obtain ⟨e, he, hx⟩ := List.mem_map.1 h
    exact Or.inr (Or.inr (Or.inr ⟨e, he, hx.symm⟩))

theorem qSet_base {w : World} {base q r : Nat} {v : Value} {l : List Ent} (h : QN w base q r v l) : ∀ x ∈ qSet q r v l, base ≤ x := by
  intro x hx
  rcases mem_qSet hx with rfl | rfl | hx | ⟨e, he, rfl⟩
  · exact h.hbase.1
  · exact h.hbase.2.1
  · exact (h.hv.lt x hx).1
  · exact h.hbase.2.2 e he

def finCode (l : List Ent) (id : Int) : Int := if id ∈ waits l then 0 else 6
def finLs (l : List Ent) (id : Int) (s : Sg) : List Ent := if id ∈ waits l then finL l id s else l

theorem bo_submit {w : World} {base q r u : Nat} {v rv : Value} {l : List Ent} (id : Int) (m : ByteArray) (h : Bo w base q r u v rv l l) :
    Calls Try.prog 14 #[.pointer (some ⟨q, 0, none⟩), .agg #[.int .i64 id, .string m]] w fun e w' =>
      e = .returned (.tuple #[.int .i64 (subCode l id m), .agg #[.int .u64 (subSig l id m).x0, .int .u64 (subSig l id m).x1, .int .u64 (subSig l id m).x2, .int .u64 (subSig l id m).x3, .int .u64 (subSig l id m).y0, .int .u64 (subSig l id m).y1, .int .u64 (subSig l id m).y2, .int .u64 (subSig l id m).y3, .bool (subSig l id m).inf, .int .u64 (subSig l id m).z0, .int .u64 (subSig l id m).z1, .int .u64 (subSig l id m).z2, .int .u64 (subSig l id m).z3]]) ∧ ∃ v' b, Bo w' base q r u v' rv (subL l id m b) l ∧ Chg (qSet q r v l) w w' := by
  refine (submit_any base q r v l id m w h.hQ).mono ?_
  rintro e w' ⟨rfl, v', b, hb, hQ, hv, hC⟩
  refine ⟨rfl, v', b, ⟨hQ, h.hR.q h.hQ hC ?_⟩, hC.mono ?_⟩
  · intro x hx
    rcases List.mem_cons.1 hx with hx | hx
    · exact Or.inl hx
    · rcases List.mem_cons.1 hx with hx | hx
      · exact Or.inr (Or.inl hx)
      · exact Or.inr (Or.inr (Or.inl (Option.mem_toList.1 hx)))
  · intro x hx
    exact List.mem_append.2 (Or.inl hx)

theorem bo_rsubmit {w : World} {base q r u b : Nat} {v rv : Value} {l lq : List Ent} (id : Int) (m : ByteArray) (h : Bo w base q r u v rv lq l) (hl : l.length ≤ 1000000) (hn : (l.map Ent.id).Nodup) (h8 : (waits l).length ≤ 8) (hlq : lq = subL l id m b) :
    Calls Try.prog 33 #[.pointer (some ⟨u, 0, none⟩), .int .i64 id, .string m] w fun e w' =>
      e = .returned (.tuple #[.int .i64 (subCode l id m), .agg #[.int .u64 (subSig l id m).x0, .int .u64 (subSig l id m).x1, .int .u64 (subSig l id m).x2, .int .u64 (subSig l id m).x3, .int .u64 (subSig l id m).y0, .int .u64 (subSig l id m).y1, .int .u64 (subSig l id m).y2, .int .u64 (subSig l id m).y3, .bool (subSig l id m).inf, .int .u64 (subSig l id m).z0, .int .u64 (subSig l id m).z1, .int .u64 (subSig l id m).z2, .int .u64 (subSig l id m).z3]]) ∧ ∃ rv', Bo w' base q r u v rv' lq lq ∧ Chg (u :: rv.ownBlock.toList) w w' := by
  refine (rq_submit base u rv l id m w h.hR hl hn h8).mono ?_
  rintro e w' ⟨rfl, rv', hR, hv, hC⟩
  exact ⟨rfl, rv', ⟨h.hQ.ref h.hR hC, by rw [hlq]; exact hR b⟩, hC⟩

theorem bo_finish {w : World} {base q r u : Nat} {v rv : Value} {l lr : List Ent} (id : Int) (s : Sg) (h : Bo w base q r u v rv l lr) :
    Calls Try.prog 16 #[.pointer (some ⟨q, 0, none⟩), .int .i64 id, .agg #[.int .u64 s.x0, .int .u64 s.x1, .int .u64 s.x2, .int .u64 s.x3, .int .u64 s.y0, .int .u64 s.y1, .int .u64 s.y2, .int .u64 s.y3, .bool s.inf, .int .u64 s.z0, .int .u64 s.z1, .int .u64 s.z2, .int .u64 s.z3]] w fun e w' =>
      e = .returned (.int .i64 (finCode l id)) ∧ ∃ v', Bo w' base q r u v' rv (finLs l id s) lr ∧ Chg (qSet q r v l) w w' := by
  by_cases hm : id ∈ waits l
  · obtain ⟨e0, hem, heid⟩ := List.mem_map.1 hm
    have he := List.mem_filter.1 hem
    have hf := finish_yes base q r v l e0 s w h.hQ he.1 (by simpa using he.2)
    rw [heid] at hf
    refine hf.mono ?_
    rintro e w' ⟨rfl, v', g, _, _, hQ, hC⟩
    have hS : ∀ x ∈ [q, e0.b], x = q ∨ x = r ∨ v.ownBlock = some x ∨ ∃ e ∈ l, x = e.b := by
      intro x hx
      rcases List.mem_cons.1 hx with hx | hx
      · exact Or.inl hx
      · exact Or.inr (Or.inr (Or.inr ⟨e0, he.1, List.mem_singleton.1 hx⟩))
    refine ⟨by simp [finCode, hm], v', ⟨by simp only [finLs, if_pos hm]; exact hQ, h.hR.q h.hQ hC hS⟩, hC.mono ?_⟩
    intro x hx
    rcases List.mem_cons.1 hx with hx | hx
    · simp [qSet, hx]
    · have := List.mem_singleton.1 hx
      unfold qSet
      exact List.mem_append.2 (Or.inr (List.mem_map.2 ⟨e0, he.1, this.symm⟩))
  · refine (finish_no base q r v l id s w h.hQ hm).mono ?_
    rintro e w' ⟨rfl, hC⟩
    exact ⟨by simp [finCode, hm], v, ⟨by simp only [finLs, if_neg hm]; exact h.hQ.chg0 hC, h.hR.chg0 hC⟩, hC.mono (by simp)⟩

theorem bo_rfinish {w : World} {base q r u : Nat} {v rv : Value} {lq l : List Ent} (id : Int) (s : Sg) (h : Bo w base q r u v rv lq l) (hl : l.length ≤ 1000000) (hn : (l.map Ent.id).Nodup) :
    Calls Try.prog 34 #[.pointer (some ⟨u, 0, none⟩), .int .i64 id, .agg #[.int .u64 s.x0, .int .u64 s.x1, .int .u64 s.x2, .int .u64 s.x3, .int .u64 s.y0, .int .u64 s.y1, .int .u64 s.y2, .int .u64 s.y3, .bool s.inf, .int .u64 s.z0, .int .u64 s.z1, .int .u64 s.z2, .int .u64 s.z3]] w fun e w' =>
      e = .returned (.int .i64 (finCode l id)) ∧ Bo w' base q r u v rv lq (finLs l id s) ∧ Chg (u :: rv.ownBlock.toList) w w' := by
  refine (rq_finish base u rv l id s w h.hR hl hn).mono ?_
  rintro e w' (⟨hm, rfl, hC⟩ | ⟨hm, rfl, hR, hC⟩)
  · exact ⟨by simp [finCode, hm], ⟨h.hQ.chg0 hC, by simp only [finLs, if_neg hm]; exact h.hR.chg0 hC⟩, hC.mono (by simp)⟩
  · have hC' := hC.mono (T := u :: rv.ownBlock.toList) (by intro x hx; exact List.mem_cons_of_mem _ hx)
    exact ⟨by simp [finCode, hm], ⟨h.hQ.ref h.hR hC', by simp only [finLs, if_pos hm]; exact hR⟩, hC'⟩

end Go.Proofs.Ytgiackgdceanhaa
