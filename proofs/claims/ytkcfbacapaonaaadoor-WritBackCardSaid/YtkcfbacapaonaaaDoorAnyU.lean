/- A drawn region that ends in 'x = append(x, y)': the slice literal, then the append, each alone. -/
import Derived.Test.YtkcfbacapaonaaaDoorAn
namespace Go.Proofs.YtkcfbacapaonaaaDoor
set_option linter.unusedVariables false
set_option linter.unusedSimpArgs false
open Go.RowKit

section
variable {P : Program} {ops : Array Oper} {Q : Exit → Act → World → Prop} {md : Region.Mode}
/-- Alone a slice literal of one element is left. -/
theorem Abs.lit1 {B : World → Prop} {i : Nat} {o : Oper} {d : Tmp} {f : Nat} {S : World → Prop} {listed : Array Bool} {a : Act} {t : TypeId} (cs : Array Value) {W : World} (hi : ops[i]? = some o) (hd : o.dst = some d) (hr : Region.ready md ops listed = [i])
    (hw : Region.wanted o (yielded ops a.tmps) = true) (hG : Good B S) (hX : ∀ w, S w → Chg [] W w)
    (ho : ∀ w, (execOp a.eval o).run P w = .ok (.value (.slice (some ⟨w.heap.size, 0, none⟩) 1 1)) (w.alloc (.cells cs t)))
    (h : ∀ b, W.heap.size ≤ b → Good B (fun w => S w ∧ w.heap[b]? = some (.cells cs t (0, 0))) → Abs P md ops Q B f (fun w => S w ∧ w.heap[b]? = some (.cells cs t (0, 0))) (listed.setIfInBounds i true) (a.put (some d) (.slice (some ⟨b, 0, none⟩) 1 1))) :
    Abs P md ops Q B (f + 1) S listed a := by
  refine Abs.step hi hr hw fun w hs => ?_
  have hg : Good B (fun w' => S w' ∧ w'.heap[w.heap.size]? = some (Obj.cells cs t (0, 0))) :=
    ⟨fun _ h => hG.base _ h.1, fun _ _ h k => ⟨hG.keep _ _ h.1 k, k.has h.2 nmN⟩⟩
  refine ⟨_, _, hg, h w.heap.size (hX w hs).size hg, _, ⟨hG.keep _ _ hs ((Chg.refl [] w).alloc _), has_alloc_new w _⟩, fun K hK => ?_⟩
  unfold Oper.wp
  rw [ho w]
  show K (a.put o.dst _) _
  rw [hd]
  exact hK

/-- Alone a slice literal of n elements is left. -/
theorem Abs.litN {B : World → Prop} {i : Nat} {o : Oper} {d : Tmp} {f : Nat} {S : World → Prop} {listed : Array Bool} {a : Act} {t : TypeId} (n : Nat) (cs : Array Value) {W : World} (hi : ops[i]? = some o) (hd : o.dst = some d) (hr : Region.ready md ops listed = [i])
    (hw : Region.wanted o (yielded ops a.tmps) = true) (hG : Good B S) (hX : ∀ w, S w → Chg [] W w)
    (ho : ∀ w, (execOp a.eval o).run P w = .ok (.value (.slice (some ⟨w.heap.size, 0, none⟩) n n)) (w.alloc (.cells cs t)))
    (h : ∀ b, W.heap.size ≤ b → Good B (fun w => S w ∧ w.heap[b]? = some (.cells cs t (0, 0))) → Abs P md ops Q B f (fun w => S w ∧ w.heap[b]? = some (.cells cs t (0, 0))) (listed.setIfInBounds i true) (a.put (some d) (.slice (some ⟨b, 0, none⟩) n n))) :
    Abs P md ops Q B (f + 1) S listed a := by
  refine Abs.step hi hr hw fun w hs => ?_
  have hg : Good B (fun w' => S w' ∧ w'.heap[w.heap.size]? = some (Obj.cells cs t (0, 0))) :=
    ⟨fun _ h => hG.base _ h.1, fun _ _ h k => ⟨hG.keep _ _ h.1 k, k.has h.2 nmN⟩⟩
  refine ⟨_, _, hg, h w.heap.size (hX w hs).size hg, _, ⟨hG.keep _ _ hs ((Chg.refl [] w).alloc _), has_alloc_new w _⟩, fun K hK => ?_⟩
  unfold Oper.wp
  rw [ho w]
  show K (a.put o.dst _) _
  rw [hd]
  exact hK
/-- Alone an operation is left that answers the same in whatever world that meets S. -/
theorem Abs.alone {B : World → Prop} {i : Nat} {o : Oper} {d : Option Tmp} {v : Value} {f : Nat} {S : World → Prop} {listed : Array Bool} {a : Act} (hi : ops[i]? = some o) (hd : o.dst = d) (hr : Region.ready md ops listed = [i])
    (hw : Region.wanted o (yielded ops a.tmps) = true) (hG : Good B S) (ho : ∀ w, S w → DoesR P v ((execOp a.eval o).run P w) w)
    (h : Abs P md ops Q B f S (listed.setIfInBounds i true) (a.put d v)) : Abs P md ops Q B (f + 1) S listed a := by
  subst hd
  refine ⟨fun h0 => (by rw [hr] at h0; cases h0), fun j hj w hs => ?_⟩
  rw [hr] at hj
  obtain rfl : j = i := by simpa using hj
  unfold wpOp
  simp only [hi, hw, if_true]
  left
  unfold Oper.wp
  rcases ho w hs with hr | ⟨f, args, hr, hc⟩
  · rw [hr]; exact ⟨S, hG, hs, h⟩
  · rw [hr]
    refine Calls.mono hc ?_
    rintro e w' ⟨rfl, hC⟩
    exact ⟨S, hG, hG.keep _ _ hs hC, h⟩

theorem good_own (W0 : World) (e : TypeId) (size : Nat) (v : Value) (n : Nat) (xs : List Value) : Good (Chg [] W0) (fun w => Chg [] W0 w ∧ w.ownsRow W0.heap.size e size v n xs) :=
  ⟨fun _ h => h.1, fun _ _ h k => ⟨h.1.trans k, own_chg h.2 k (by simp)⟩⟩
/-- Alone an append of one element, to a row of the call's own, is left. -/
theorem Abs.push {i : Nat} {o : Oper} {d : Tmp} {f : Nat} {S : World → Prop} {listed : Array Bool} {a : Act} {W0 : World} (s x : Operand) (t : TypeId) (hi : ops[i]? = some o) (hd : o.dst = some d)
    (ho : o.op = .call { callee := .builtin .append, args := #[s, x], argTypes := #[t, t] }) (hr : Region.ready md ops listed = [i]) (hw : Region.wanted o (yielded ops a.tmps) = true)
    {e : TypeId} {z : Value} {size bytes : Nat} (E : ElemOK P t e z size bytes) {v : Value} {n : Nat} {xs : List Value} (hs : a.eval s = v) (g : Nat) (cs : Array Value)
    (hx : a.eval x = .slice (some ⟨g, 0, none⟩) 1 1) (hcs : cs.size = size) (h1 : ∀ u ∈ cs.toList, u.oneCell' = true) (hb : (n + 1) * bytes ≤ 140737488355328) (h63 : n + 1 ≤ 9223372036854775807)
    (hS : ∀ w, S w → Chg [] W0 w ∧ w.ownsRow W0.heap.size e size v n xs ∧ w.heap[g]? = some (.cells cs e (0, 0)))
    (h : ∀ v', Abs P md ops Q (Chg [] W0) f (fun w => Chg [] W0 w ∧ w.ownsRow W0.heap.size e size v' (n + 1) (xs ++ cs.toList)) (listed.setIfInBounds i true) (a.put (some d) v')) :
    Abs P md ops Q (Chg [] W0) (f + 1) S listed a := by
  refine Abs.step hi hr hw fun w hw' => ?_
  obtain ⟨hC, hown, hg⟩ := hS w hw'
  obtain ⟨i0, hi0, hz0, hz1, hz2⟩ := info_parts E.hi
  obtain ⟨v', w', hrun, h2, h3, _, h4⟩ := run_append_own_at (P := P) w W0.heap.size t o.type e i0 z size bytes E.ht hi0 hz0 hz1 hz2 E.hzs E.hsz v n xs hown ⟨g, 0, none⟩ 1 1 cs.toList (by simp [hcs])
    (fun j u hu => by
      rw [addr_add0, cell_of_has hg]
      simpa using hu) h1 (by simp only [maxLen]; omega) hb hC.size
  refine ⟨_, _, good_own W0 e size v' (n + 1) (xs ++ cs.toList), h v', w', ⟨hC.grown h3 (fun k hk => Or.inr ((hown.lt k hk).1)), h2⟩, fun K hK => ?_⟩
  unfold Oper.wp execOp
  simp only [ho, resolve, invoke, builtin, Sem.run_bind, Sem.run_pure, Result.andThen_ok, List.map_toArray, List.map_cons, List.map_nil, hs, hx, hrun]
  show K (a.put o.dst _) _
  rw [hd]
  exact hK
end

end Go.Proofs.YtkcfbacapaonaaaDoor
