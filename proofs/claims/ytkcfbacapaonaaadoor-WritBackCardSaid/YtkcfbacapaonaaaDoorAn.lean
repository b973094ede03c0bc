import Derived.Test.YtkcfbacapaonaaaDoorBase

/- A region that draws its order, whose calls answer the same in whatever world and leave memory as it was: each may be taken first. -/
namespace Go.Proofs.YtkcfbacapaonaaaDoor
set_option linter.unusedVariables false
set_option linter.unusedSimpArgs false
open Go.RowKit

section
variable {P : Program} {ops : Array Oper} {Q : Exit → Act → World → Prop} {md : Region.Mode} {B : World → Prop}

/-- The run is a value, or a call that returns this value and only makes memory. -/
def DoesR (P : Program) (v : Value) (r : Result Next) (w : World) : Prop :=
  r = .ok (.value v) w ∨ ∃ f args, r = .ok (.enter f args) w ∧ Calls P f args w (fun e w' => e = .returned v ∧ Chg [] w w')
/-- In whatever world that meets B, operation o leaves v and only makes memory. -/
def Does (P : Program) (ops : Array Oper) (B : World → Prop) (o : Oper) (v : Value) (a : Act) : Prop :=
  Region.wanted o (yielded ops a.tmps) = true ∧ ∀ w, B w → DoesR P v ((execOp a.eval o).run P w) w

theorem Does.step {i : Nat} {o : Oper} {v : Value} {a : Act} (hi : ops[i]? = some o) (h : Does P ops B o v a) {K : Act → World → Prop} {w : World} (hw : B w)
    (hK : ∀ w', Chg [] w w' → K (a.put o.dst v) w') : wpOp P ops Q i K a w := by
  unfold wpOp
  simp only [hi, h.1, if_true]
  left
  unfold Oper.wp
  rcases h.2 w hw with hr | ⟨f, args, hr, hc⟩
  · rw [hr]; exact hK w (Chg.refl _ _)
  · rw [hr]
    refine Calls.mono hc ?_
    rintro e w' ⟨rfl, hC⟩
    exact hK w' hC
theorem Does.of {o : Oper} {v : Value} {a a' : Act} (h : Does P ops B o v a) (he : execOp a'.eval o = execOp a.eval o) (hw : Region.wanted o (yielded ops a'.tmps) = Region.wanted o (yielded ops a.tmps)) : Does P ops B o v a' := by
  unfold Does
  rw [he, hw]
  exact h

/-- What an operation makes of a state. -/
theorem wpOp_shape {j : Nat} {o : Oper} (hj : ops[j]? = some o) {K : Act → World → Prop} {a : Act} {w : World} (h : wpOp P ops Q j K a w) :
    wpOp P ops Q j (fun a' w' => (∃ ds u, a' = ({ a with defers := ds } : Act).put o.dst u) ∧ K a' w') a w := by
  have hp : ∀ u, ∃ ds u', a.put o.dst u = ({ a with defers := ds } : Act).put o.dst u' := fun u => ⟨a.defers, u, rfl⟩
  unfold wpOp at *
  simp only [hj] at *
  by_cases hw : Region.wanted o (yielded ops a.tmps) = true
  · rw [if_pos hw] at h ⊢
    refine h.imp (fun h => ?_) id
    unfold Oper.wp at *
    generalize (execOp a.eval o).run P w = r at *
    rcases r with ⟨n, w'⟩ | ⟨x, w'⟩
    · cases n <;> simp only [Oper.upon] at h ⊢
      case value => exact ⟨hp _, h⟩
      case skip => exact ⟨hp _, h⟩
      case defer d => exact ⟨⟨_, _, rfl⟩, h⟩
      case enter f args =>
        refine Calls.mono h fun e w'' he => ?_
        cases e with
        | returned u => exact ⟨hp _, he⟩
        | panicked c => exact he
        | outgrown => exact he
      case row => exact Rows.mono h fun u w'' he => ⟨hp _, he⟩
    · cases x <;> simp only [Oper.upon] at h ⊢
      exact h
  · rw [if_neg hw] at h ⊢
    exact ⟨hp _, h⟩

/-- A condition on worlds that what only makes memory keeps. -/
structure Good (B S : World → Prop) : Prop where
  base : ∀ w, S w → B w
  keep : ∀ w w', S w → Chg [] w w' → S w'

/-- Whatever order is picked from here on, in whatever world that meets S. -/
def Abs (P : Program) (md : Region.Mode) (ops : Array Oper) (Q : Exit → Act → World → Prop) (B : World → Prop) : Nat → (World → Prop) → Array Bool → Act → Prop
  | 0, S, listed, a => Region.ready md ops listed = [] ∧ ∀ w, S w → Q .normal a w
  | f + 1, S, listed, a => (Region.ready md ops listed = [] → ∀ w, S w → Q .normal a w) ∧
    ∀ i ∈ Region.ready md ops listed, ∀ w, S w → wpOp P ops Q i (fun a' w' => ∃ S', Good B S' ∧ S' w' ∧ Abs P md ops Q B f S' (listed.setIfInBounds i true) a') a w

theorem Abs.any : ∀ (f : Nat) (S : World → Prop) (listed : Array Bool) (a : Act) (w : World), Abs P md ops Q B f S listed a → S w → wpAny P md ops Q f listed a w
  | 0, _, _, _, w, h, hs => ⟨h.1, h.2 w hs⟩
  | f + 1, _, _, _, w, h, hs => ⟨fun h0 => h.1 h0 w hs, fun i hi => wpOp_mono (fun a' w' ⟨S', _, hs', ha⟩ => Abs.any f S' _ a' w' ha hs') (h.2 i hi w hs)⟩

/-- An operation that does so may be taken first. -/
theorem Abs.first {i : Nat} {oi : Oper} {v : Value} (hi : ops[i]? = some oi) (hsel : ∀ (j : Nat) (o : Oper) cs b, ops[j]? = some o → o.op ≠ .select cs b)
    (hQ : ∀ c a w, Q (.panic c) (a.put oi.dst v) w → Q (.panic c) a w) :
    ∀ (f : Nat) (S : World → Prop) (listed : Array Bool) (a : Act), Good B S →
      (∀ j oj, ops[j]? = some oj → j ≠ i → listed.getD j true = false → (∀ e ∈ oj.after, Region.binds md e = true → e.on ≠ i) → oi.apart ops oj = true) →
      i ∈ Region.ready md ops listed → Does P ops B oi v a →
      Abs P md ops Q B f S (listed.setIfInBounds i true) (a.put oi.dst v) → Abs P md ops Q B (f + 1) S listed a := by
  intro f
  induction f with
  | zero =>
    intro S listed a hG _ hr hy H
    refine ⟨fun h => (by rw [h] at hr; cases hr), fun j hj w hs => ?_⟩
    by_cases hji : j = i
    · subst hji
      exact hy.step hi (hG.base w hs) fun w' hc => ⟨S, hG, hG.keep w w' hs hc, H⟩
    · have := ready_mono hj hji
      rw [H.1] at this
      cases this
  | succ f ih =>
    intro S listed a hG hfree hr hy H
    refine ⟨fun h => (by rw [h] at hr; cases hr), fun j hj w hs => ?_⟩
    by_cases hji : j = i
    · subst hji
      exact hy.step hi (hG.base w hs) fun w' hc => ⟨S, hG, hG.keep w w' hs hc, H⟩
    · have h1 := H.2 j (ready_mono hj hji) w hs
      obtain ⟨hjun, oj, hoj, hall⟩ := mem_ready.1 hj
      have hiun := (mem_ready.1 hr).1
      have hnot : ∀ e ∈ oj.after, Region.binds md e = true → e.on ≠ i := fun e he hb heq => by
        have h1 := hall e he hb
        rw [heq] at h1
        rcases Nat.lt_or_ge i listed.size with h' | h'
        · simp [h'] at hiun h1; rw [hiun] at h1; cases h1
        · simp [Array.getElem?_eq_none h'] at h1
      have hap := hfree j oj hoj hji hjun hnot
      obtain ⟨-, -, hd⟩ := Oper.apart_spec hap
      have hyf : YieldsIf P ops (fun _ => False) oi v a := Or.inl ⟨hy.1, fun w h => h.elim⟩
      have h2 := wpOp_putIf (S := fun _ => False) hoj hap (fun cs b => hsel i oi cs b hi) (fun cs b => hsel j oj cs b hoj) hQ hyf h1
      have h3 := wpOp_shape hoj h2
      have hfree' : ∀ k ok, ops[k]? = some ok → k ≠ i → (listed.setIfInBounds j true).getD k true = false →
          (∀ e ∈ ok.after, Region.binds md e = true → e.on ≠ i) → oi.apart ops ok = true := fun k ok hk hki hun hno => by
        refine hfree k ok hk hki ?_ hno
        by_cases hjk : j = k
        · subst hjk; exact hjun
        · rw [getD_set_ne true hjk] at hun; exact hun
      refine wpOp_mono (fun a' w' h4 => ?_) h3
      obtain ⟨⟨ds, u, rfl⟩, -, S', hG', hs', hA⟩ := h4
      refine ⟨S', hG', hs', ih S' (listed.setIfInBounds j true) _ hG' hfree' (ready_mono hr (Ne.symm hji)) ?_ ?_⟩
      · refine hy.of ?_ ?_
        · rw [execOp_put (ops := ops) oi (fun cs b => hsel i oi cs b hi) _ oj.dst u hd]
          rfl
        · rw [wanted_put (ops := ops) oi _ oj.dst u hd]
      · rw [Array.setIfInBounds_comm _ _ hji]
        exact hA

theorem Abs.take {i : Nat} {oi : Oper} {v : Value} {f : Nat} {S : World → Prop} {listed : Array Bool} {a : Act} (hi : ops[i]? = some oi)
    (hs : Region.noSelect ops = true) (hf : Region.free md ops listed i = true) (hr : (Region.ready md ops listed).contains i = true)
    (hQ : ∀ c a w, Q (.panic c) (a.put oi.dst v) w → Q (.panic c) a w) (hG : Good B S) (hy : Does P ops B oi v a)
    (h : Abs P md ops Q B f S (listed.setIfInBounds i true) (a.put oi.dst v)) : Abs P md ops Q B (f + 1) S listed a :=
  Abs.first hi (Region.noSelect_spec hs) hQ f S listed a hG (Region.free_spec hi hf) (by simpa using hr) hy h

theorem Abs.take_at {i : Nat} {oi : Oper} {d : Option Tmp} {v : Value} {f : Nat} {S : World → Prop} {listed : Array Bool} {a : Act} (hi : ops[i]? = some oi) (hd : oi.dst = d)
    (hs : Region.noSelect ops = true) (hf : Region.free md ops listed i = true) (hr : (Region.ready md ops listed).contains i = true)
    (hQ : ∀ c a w, Q (.panic c) (a.put oi.dst v) w → Q (.panic c) a w) (hG : Good B S) (hy : Does P ops B oi v a)
    (h : Abs P md ops Q B f S (listed.setIfInBounds i true) (a.put d v)) : Abs P md ops Q B (f + 1) S listed a := by
  subst hd
  exact Abs.take hi hs hf hr hQ hG hy h
/-- The same, what is closed by computing left out. -/
theorem Abs.tka {i : Nat} {oi : Oper} {d : Option Tmp} {v : Value} {f : Nat} {S : World → Prop} {listed : Array Bool} {a : Act} (hi : ops[i]? = some oi) (hd : oi.dst = d)
    (hQ : ∀ c a w, Q (.panic c) (a.put oi.dst v) w → Q (.panic c) a w) (hG : Good B S) (hy : Does P ops B oi v a)
    (h : Abs P md ops Q B f S (listed.setIfInBounds i true) (a.put d v))
    (hs : Region.noSelect ops = true := by kernel_rfl) (hf : Region.free md ops listed i = true := by kernel_rfl) (hr : (Region.ready md ops listed).contains i = true := by kernel_rfl) : Abs P md ops Q B (f + 1) S listed a :=
  Abs.take_at hi hd hs hf hr hQ hG hy h
theorem Abs.at_put {o : Oper} {d : Option Tmp} {v : Value} {f : Nat} {S : World → Prop} {listed : Array Bool} {a : Act} (hd : o.dst = d) (h : Abs P md ops Q B f S listed (a.put d v)) :
    Abs P md ops Q B f S listed (a.put o.dst v) := by subst hd; exact h

theorem Abs.done {listed : Array Bool} {a : Act} {S : World → Prop} (hr : Region.ready md ops listed = []) (h : ∀ w, S w → Q .normal a w) : ∀ f, Abs P md ops Q B f S listed a
  | 0 => ⟨hr, h⟩
  | _ + 1 => ⟨fun _ => h, by rw [hr]; simp⟩

/-- One operation alone is left that may come up: it is carried out. -/
theorem Abs.step {i : Nat} {o : Oper} {f : Nat} {S : World → Prop} {listed : Array Bool} {a : Act} (hi : ops[i]? = some o) (hr : Region.ready md ops listed = [i])
    (hw : Region.wanted o (yielded ops a.tmps) = true)
    (h : ∀ w, S w → ∃ S' a', Good B S' ∧ Abs P md ops Q B f S' (listed.setIfInBounds i true) a' ∧ ∃ w', S' w' ∧ ∀ K, K a' w' → o.wp P a w K Q) : Abs P md ops Q B (f + 1) S listed a := by
  refine ⟨fun h0 => (by rw [hr] at h0; cases h0), fun j hj w hs => ?_⟩
  rw [hr] at hj
  obtain rfl : j = i := by simpa using hj
  obtain ⟨S', a', hG, hA, w', hs', hK⟩ := h w hs
  unfold wpOp
  simp only [hi, hw, if_true]
  exact .inl (hK _ ⟨S', hG, hs', hA⟩)

theorem abs_region {id : Nat} {a : Act} {W : World} {S : World → Prop} (hm : P.follows .mixedOrders = true) (hS : S W.drew)
    (h : Abs P .any ops (NoPanic Q) B ops.size S (Array.replicate ops.size false) a) : (Code.region id ops true).wp P Q a W :=
  wp_region_noPanic (wp_region_any hm (Abs.any _ _ _ _ _ h hS))
theorem Good.self (h : ∀ w w', B w → Chg [] w w' → B w') : Good B B := ⟨fun _ h => h, h⟩
theorem good_chg (X : List Nat) (W : World) : Good (Chg X W) (Chg X W) := Good.self fun _ _ h k => h.trans (k.mono (by simp))

/-- Alone an alloc of four cells is left. -/
theorem Abs.alloc4 {i : Nat} {o : Oper} {f : Nat} {S : World → Prop} {listed : Array Bool} {a : Act} {t : TypeId} {X : List Nat} {W : World} (hi : ops[i]? = some o) (hr : Region.ready md ops listed = [i])
    (hw : Region.wanted o (yielded ops a.tmps) = true) (hG : Good B S) (hX : ∀ w, S w → Chg X W w)
    (ho : ∀ w, (execOp a.eval o).run P w = .ok (.value (.pointer (some ⟨w.heap.size, 0, none⟩))) (w.alloc (.cells #[.int .u64 0, .int .u64 0, .int .u64 0, .int .u64 0] t)))
    (h : ∀ b, W.heap.size ≤ b → Good B (fun w => S w ∧ w.heap[b]? = some (.cells #[.int .u64 0, .int .u64 0, .int .u64 0, .int .u64 0] t (0, 0))) → Abs P md ops Q B f (fun w => S w ∧ w.heap[b]? = some (.cells #[.int .u64 0, .int .u64 0, .int .u64 0, .int .u64 0] t (0, 0))) (listed.setIfInBounds i true) (a.put o.dst (.pointer (some ⟨b, 0, none⟩)))) :
    Abs P md ops Q B (f + 1) S listed a := by
  refine Abs.step hi hr hw fun w hs => ?_
  have hg : Good B (fun w' => S w' ∧ w'.heap[w.heap.size]? = some (.cells #[.int .u64 0, .int .u64 0, .int .u64 0, .int .u64 0] t (0, 0))) :=
    ⟨fun _ h => hG.base _ h.1, fun _ _ h k => ⟨hG.keep _ _ h.1 k, k.has h.2 nmN⟩⟩
  refine ⟨_, _, hg, h w.heap.size (hX w hs).size hg, _, ⟨hG.keep _ _ hs ((Chg.refl [] w).alloc _), has_alloc_new w _⟩, fun K hK => ?_⟩
  unfold Oper.wp
  rw [ho w]
  exact hK

/-- Alone a store into four new cells is left. -/
theorem Abs.store4 {i : Nat} {o : Oper} {f : Nat} {S0 : World → Prop} {listed : Array Bool} {a : Act} {t : TypeId} {b : Nat} {cs ds : Array Value} (hi : ops[i]? = some o) (hr : Region.ready md ops listed = [i])
    (hw : Region.wanted o (yielded ops a.tmps) = true) (st : World → World)
    (ho : ∀ w, w.heap[b]? = some (.cells cs t (0, 0)) → (execOp a.eval o).run P w = .ok .skip (st w) ∧ (st w).heap[b]? = some (.cells ds t (0, 0)) ∧ Chg [b] w (st w))
    (hS0 : ∀ w w', S0 w → Chg [b] w w' → S0 w') (hG : Good B S0)
    (h : Good B (fun w => S0 w ∧ w.heap[b]? = some (.cells ds t (0, 0))) → Abs P md ops Q B f (fun w => S0 w ∧ w.heap[b]? = some (.cells ds t (0, 0))) (listed.setIfInBounds i true) (a.put o.dst undef)) :
    Abs P md ops Q B (f + 1) (fun w => S0 w ∧ w.heap[b]? = some (.cells cs t (0, 0))) listed a := by
  refine Abs.step hi hr hw fun w hs => ?_
  obtain ⟨h1, h2, h3⟩ := ho w hs.2
  have hg : Good B (fun w' => S0 w' ∧ w'.heap[b]? = some (.cells ds t (0, 0))) :=
    ⟨fun _ h => hG.base _ h.1, fun _ _ h k => ⟨hG.keep _ _ h.1 k, k.has h.2 nmN⟩⟩
  refine ⟨_, _, hg, h hg, _, ⟨hS0 _ _ hs.1 h3, h2⟩, fun K hK => ?_⟩
  unfold Oper.wp
  rw [h1]
  exact hK
theorem good_at (X : List Nat) (W : World) (b : Nat) (o : Obj) : Good (Chg X W) (fun w => Chg X W w ∧ w.heap[b]? = some o) :=
  ⟨fun _ h => h.1, fun _ _ h k => ⟨h.1.trans (k.mono (by simp)), k.has h.2 nmN⟩⟩
theorem Abs.weaken {f : Nat} {S S' : World → Prop} {listed : Array Bool} {a : Act} (hs : ∀ w, S w → S' w) (h : Abs P md ops Q B f S' listed a) : Abs P md ops Q B f S listed a := by
  cases f with
  | zero => exact ⟨h.1, fun w hw => h.2 w (hs w hw)⟩
  | succ f => exact ⟨fun h0 w hw => h.1 h0 w (hs w hw), fun i hi w hw => h.2 i hi w (hs w hw)⟩

/-- Two allocs are left, whichever comes first. -/
theorem Abs.alloc4two {i j : Nat} {oi oj : Oper} {di dj : Tmp} {f : Nat} {S : World → Prop} {listed : Array Bool} {a : Act} {t : TypeId} {X : List Nat} {W : World} (hi : ops[i]? = some oi) (hj : ops[j]? = some oj)
    (hdi : oi.dst = some di) (hdj : oj.dst = some dj) (hne : di ≠ dj) (hij : i ≠ j)
    (hr : Region.ready md ops listed = [i, j]) (hri : Region.ready md ops (listed.setIfInBounds i true) = [j]) (hrj : Region.ready md ops (listed.setIfInBounds j true) = [i])
    (hgi : oi.guard = none) (hgj : oj.guard = none) (hoi : oi.op = .alloc t) (hoj : oj.op = .alloc t) (hG : Good B S) (hX : ∀ w, S w → Chg X W w)
    (hrun : ∀ w, (Instr.alloc t true (.tuple #[])).run P w = .ok (.pointer (some ⟨w.heap.size, 0, none⟩)) (w.alloc (.cells #[.int .u64 0, .int .u64 0, .int .u64 0, .int .u64 0] t)))
    (h : ∀ b c, W.heap.size ≤ b → W.heap.size ≤ c → b ≠ c → Good B (fun w => (S w ∧ w.heap[c]? = some (.cells #[.int .u64 0, .int .u64 0, .int .u64 0, .int .u64 0] t (0, 0))) ∧ w.heap[b]? = some (.cells #[.int .u64 0, .int .u64 0, .int .u64 0, .int .u64 0] t (0, 0))) →
      Abs P md ops Q B f (fun w => (S w ∧ w.heap[c]? = some (.cells #[.int .u64 0, .int .u64 0, .int .u64 0, .int .u64 0] t (0, 0))) ∧ w.heap[b]? = some (.cells #[.int .u64 0, .int .u64 0, .int .u64 0, .int .u64 0] t (0, 0))) ((listed.setIfInBounds i true).setIfInBounds j true) ((a.put (some di) (.pointer (some ⟨b, 0, none⟩))).put (some dj) (.pointer (some ⟨c, 0, none⟩)))) :
    Abs P md ops Q B (f + 2) S listed a := by
  have hw : ∀ (o : Oper), o.guard = none → ∀ a : Act, Region.wanted o (yielded ops a.tmps) = true := fun o hg a => by simp [Region.wanted, hg]
  have hex : ∀ (o : Oper), o.op = .alloc t → ∀ (a : Act) (w : World), (execOp a.eval o).run P w = .ok (.value (.pointer (some ⟨w.heap.size, 0, none⟩))) (w.alloc (.cells #[.int .u64 0, .int .u64 0, .int .u64 0, .int .u64 0] t)) := fun o ho a w => by
    unfold execOp
    rw [ho]
    simp only [Sem.run_bind, hrun, Result.andThen_ok]
    rfl
  have step : ∀ (o : Oper), o.op = .alloc t → ∀ (a : Act) (w : World) (K : Act → World → Prop), K (a.put o.dst (.pointer (some ⟨w.heap.size, 0, none⟩))) (w.alloc (.cells #[.int .u64 0, .int .u64 0, .int .u64 0, .int .u64 0] t)) → o.wp P a w K Q := fun o ho a w K hK => by
    unfold Oper.wp
    rw [hex o ho]
    exact hK
  have good2 : ∀ b, Good B (fun w => S w ∧ w.heap[b]? = some (Obj.cells #[.int .u64 0, .int .u64 0, .int .u64 0, .int .u64 0] t (0, 0))) := fun b =>
    ⟨fun _ h => hG.base _ h.1, fun _ _ h k => ⟨hG.keep _ _ h.1 k, k.has h.2 nmN⟩⟩
  have good3 : ∀ b c, Good B (fun w => (S w ∧ w.heap[c]? = some (Obj.cells #[.int .u64 0, .int .u64 0, .int .u64 0, .int .u64 0] t (0, 0))) ∧ w.heap[b]? = some (Obj.cells #[.int .u64 0, .int .u64 0, .int .u64 0, .int .u64 0] t (0, 0))) := fun b c =>
    ⟨fun _ h => hG.base _ h.1.1, fun _ _ h k => ⟨⟨hG.keep _ _ h.1.1 k, k.has h.1.2 nmN⟩, k.has h.2 nmN⟩⟩
  refine ⟨fun h0 => (by rw [hr] at h0; cases h0), fun k hk w hs => ?_⟩
  rw [hr] at hk
  have hk2 : k = i ∨ k = j := by simpa using hk
  rcases hk2 with rfl | rfl
  · unfold wpOp
    simp only [hi, hw oi hgi, if_true]
    refine .inl (step oi hoi _ _ _ ?_)
    refine ⟨_, good2 w.heap.size, ⟨hG.keep _ _ hs ((Chg.refl [] w).alloc _), has_alloc_new w _⟩, ?_⟩
    refine Abs.step hj hri (hw oj hgj _) fun w2 hs2 => ?_
    have hlt := lt_of_has hs2.2
    refine ⟨_, _, good3 w.heap.size w2.heap.size, ?_, w2.alloc (.cells #[.int .u64 0, .int .u64 0, .int .u64 0, .int .u64 0] t), ⟨⟨hG.keep _ _ hs2.1 ((Chg.refl [] w2).alloc _), has_alloc_new w2 _⟩, has_alloc hs2.2⟩, fun K hK => step oj hoj _ _ K hK⟩
    rw [hdi, hdj]
    exact h _ _ (hX w hs).size (hX w2 hs2.1).size (by omega) (good3 _ _)
  · unfold wpOp
    simp only [hj, hw oj hgj, if_true]
    refine .inl (step oj hoj _ _ _ ?_)
    refine ⟨_, good2 w.heap.size, ⟨hG.keep _ _ hs ((Chg.refl [] w).alloc _), has_alloc_new w _⟩, ?_⟩
    refine Abs.step hi hrj (hw oi hgi _) fun w2 hs2 => ?_
    have hlt := lt_of_has hs2.2
    refine ⟨_, _, good3 w2.heap.size w.heap.size, ?_, w2.alloc (.cells #[.int .u64 0, .int .u64 0, .int .u64 0, .int .u64 0] t), ⟨⟨hG.keep _ _ hs2.1 ((Chg.refl [] w2).alloc _), has_alloc hs2.2⟩, has_alloc_new w2 _⟩, fun K hK => step oi hoi _ _ K hK⟩
    rw [hdi, hdj, Array.setIfInBounds_comm _ _ (Ne.symm hij), Act.put_comm a (x := some dj) (y := some di) _ _ (fun d hd => by cases hd; simpa using hne)]
    exact h _ _ (hX w2 hs2.1).size (hX w hs).size (by omega) (good3 _ _)
theorem Chg.keeps {X : List Nat} {W w w' : World} {b : Nat} (hb : b ∈ X ∨ W.heap.size ≤ b) (h : Chg X W w) (k : Chg [b] w w') : Chg X W w' :=
  h.trans_new k (by simpa using hb)
end

end Go.Proofs.YtkcfbacapaonaaaDoor

/- Taking an operation first where a panic is shown away. -/
namespace Go.Proofs.YtkcfbacapaonaaaDoor
set_option linter.unusedVariables false
set_option linter.unusedSimpArgs false
open Go.RowKit

section
variable {P : Program} {ops : Array Oper} {Q : Exit → Act → World → Prop} {md : Region.Mode} {B : World → Prop}
theorem Abs.take_np {i : Nat} {oi : Oper} {d : Option Tmp} {v : Value} {f : Nat} {S : World → Prop} {listed : Array Bool} {a : Act} (hi : ops[i]? = some oi) (hd : oi.dst = d)
    (hs : Region.noSelect ops = true) (hf : Region.free md ops listed i = true) (hr : (Region.ready md ops listed).contains i = true)
    (hG : Good B S) (hy : Does P ops B oi v a)
    (h : Abs P md ops (NoPanic Q) B f S (listed.setIfInBounds i true) (a.put d v)) : Abs P md ops (NoPanic Q) B (f + 1) S listed a := by
  subst hd
  exact Abs.take hi hs hf hr (fun _ _ _ h => (h : False).elim) hG hy h
/-- The same, what is closed by computing left out. -/
theorem Abs.tk {i : Nat} {oi : Oper} {d : Option Tmp} {v : Value} {f : Nat} {S : World → Prop} {listed : Array Bool} {a : Act} (hi : ops[i]? = some oi) (hd : oi.dst = d) (hG : Good B S) (hy : Does P ops B oi v a)
    (h : Abs P md ops (NoPanic Q) B f S (listed.setIfInBounds i true) (a.put d v))
    (hs : Region.noSelect ops = true := by kernel_rfl) (hf : Region.free md ops listed i = true := by kernel_rfl) (hr : (Region.ready md ops listed).contains i = true := by kernel_rfl) : Abs P md ops (NoPanic Q) B (f + 1) S listed a :=
  Abs.take_np hi hd hs hf hr hG hy h
end

end Go.Proofs.YtkcfbacapaonaaaDoor

/- An operation that a guard leaves out may be taken first too. -/
namespace Go.Proofs.YtkcfbacapaonaaaDoor
set_option linter.unusedVariables false
set_option linter.unusedSimpArgs false
open Go.RowKit

section
variable {P : Program} {ops : Array Oper} {Q : Exit → Act → World → Prop} {md : Region.Mode} {B : World → Prop}
theorem skip_step {i : Nat} {o : Oper} {a : Act} (hi : ops[i]? = some o) (h : Region.wanted o (yielded ops a.tmps) = false) {K : Act → World → Prop} {w : World} (hK : K (a.put o.dst undef) w) : wpOp P ops Q i K a w := by
  unfold wpOp
  simp only [hi, h, Bool.false_eq_true, if_false]
  exact hK
theorem Abs.first_skip {i : Nat} {oi : Oper} (hi : ops[i]? = some oi) (hsel : ∀ (j : Nat) (o : Oper) cs b, ops[j]? = some o → o.op ≠ .select cs b)
    (hQ : ∀ c a w, Q (.panic c) (a.put oi.dst undef) w → Q (.panic c) a w) :
    ∀ (f : Nat) (S : World → Prop) (listed : Array Bool) (a : Act), Good B S →
      (∀ j oj, ops[j]? = some oj → j ≠ i → listed.getD j true = false → (∀ e ∈ oj.after, Region.binds md e = true → e.on ≠ i) → oi.apart ops oj = true) →
      i ∈ Region.ready md ops listed → Region.wanted oi (yielded ops a.tmps) = false →
      Abs P md ops Q B f S (listed.setIfInBounds i true) (a.put oi.dst undef) → Abs P md ops Q B (f + 1) S listed a := by
  intro f
  induction f with
  | zero =>
    intro S listed a hG _ hr hy H
    refine ⟨fun h => (by rw [h] at hr; cases hr), fun j hj w hs => ?_⟩
    by_cases hji : j = i
    · subst hji
      exact skip_step hi hy ⟨S, hG, hs, H⟩
    · have := ready_mono hj hji
      rw [H.1] at this
      cases this
  | succ f ih =>
    intro S listed a hG hfree hr hy H
    refine ⟨fun h => (by rw [h] at hr; cases hr), fun j hj w hs => ?_⟩
    by_cases hji : j = i
    · subst hji
      exact skip_step hi hy ⟨S, hG, hs, H⟩
    · have h1 := H.2 j (ready_mono hj hji) w hs
      obtain ⟨hjun, oj, hoj, hall⟩ := mem_ready.1 hj
      have hiun := (mem_ready.1 hr).1
      have hnot : ∀ e ∈ oj.after, Region.binds md e = true → e.on ≠ i := fun e he hb heq => by
        have h1 := hall e he hb
        rw [heq] at h1
        rcases Nat.lt_or_ge i listed.size with h' | h'
        · simp [h'] at hiun h1; rw [hiun] at h1; cases h1
        · simp [Array.getElem?_eq_none h'] at h1
      have hap := hfree j oj hoj hji hjun hnot
      obtain ⟨-, -, hd⟩ := Oper.apart_spec hap
      have hyf : YieldsIf P ops (fun _ => False) oi undef a := Or.inr ⟨hy, rfl⟩
      have h2 := wpOp_putIf (S := fun _ => False) hoj hap (fun cs b => hsel i oi cs b hi) (fun cs b => hsel j oj cs b hoj) hQ hyf h1
      have h3 := wpOp_shape hoj h2
      have hfree' : ∀ k ok, ops[k]? = some ok → k ≠ i → (listed.setIfInBounds j true).getD k true = false →
          (∀ e ∈ ok.after, Region.binds md e = true → e.on ≠ i) → oi.apart ops ok = true := fun k ok hk hki hun hno => by
        refine hfree k ok hk hki ?_ hno
        by_cases hjk : j = k
        · subst hjk; exact hjun
        · rw [getD_set_ne true hjk] at hun; exact hun
      refine wpOp_mono (fun a' w' h4 => ?_) h3
      obtain ⟨⟨ds, u, rfl⟩, -, S', hG', hs', hA⟩ := h4
      refine ⟨S', hG', hs', ih S' (listed.setIfInBounds j true) _ hG' hfree' (ready_mono hr (Ne.symm hji)) ?_ ?_⟩
      · rw [wanted_put (ops := ops) oi _ oj.dst u hd]
        exact hy
      · rw [Array.setIfInBounds_comm _ _ hji]
        exact hA
theorem Abs.skip_np {i : Nat} {oi : Oper} {d : Option Tmp} {f : Nat} {S : World → Prop} {listed : Array Bool} {a : Act} (hi : ops[i]? = some oi) (hd : oi.dst = d)
    (hs : Region.noSelect ops = true) (hf : Region.free md ops listed i = true) (hr : (Region.ready md ops listed).contains i = true)
    (hG : Good B S) (hy : Region.wanted oi (yielded ops a.tmps) = false)
    (h : Abs P md ops (NoPanic Q) B f S (listed.setIfInBounds i true) (a.put d undef)) : Abs P md ops (NoPanic Q) B (f + 1) S listed a := by
  subst hd
  exact Abs.first_skip hi (Region.noSelect_spec hs) (fun _ _ _ h => (h : False).elim) f S listed a hG (Region.free_spec hi hf) (by simpa using hr) hy h
end

end Go.Proofs.YtkcfbacapaonaaaDoor

/- An alloc of any cells in a drawn region. -/
namespace Go.Proofs.YtkcfbacapaonaaaDoor
set_option linter.unusedVariables false
set_option linter.unusedSimpArgs false
open Go.RowKit

section
variable {P : Program} {ops : Array Oper} {Q : Exit → Act → World → Prop} {md : Region.Mode} {B : World → Prop}
theorem Abs.allocN {i : Nat} {o : Oper} {d : Tmp} {f : Nat} {S : World → Prop} {listed : Array Bool} {a : Act} {t : TypeId} (cs : Array Value) {X : List Nat} {W : World} (hi : ops[i]? = some o) (hd : o.dst = some d) (hr : Region.ready md ops listed = [i])
    (hw : Region.wanted o (yielded ops a.tmps) = true) (hG : Good B S) (hX : ∀ w, S w → Chg X W w)
    (ho : ∀ w, (execOp a.eval o).run P w = .ok (.value (.pointer (some ⟨w.heap.size, 0, none⟩))) (w.alloc (.cells cs t)))
    (h : ∀ b, W.heap.size ≤ b → Good B (fun w => S w ∧ w.heap[b]? = some (.cells cs t (0, 0))) → Abs P md ops Q B f (fun w => S w ∧ w.heap[b]? = some (.cells cs t (0, 0))) (listed.setIfInBounds i true) (a.put (some d) (.pointer (some ⟨b, 0, none⟩)))) :
    Abs P md ops Q B (f + 1) S listed a := by
  refine Abs.step hi hr hw fun w hs => ?_
  have hg : Good B (fun w' => S w' ∧ w'.heap[w.heap.size]? = some (Obj.cells cs t (0, 0))) :=
    ⟨fun _ h => hG.base _ h.1, fun _ _ h k => ⟨hG.keep _ _ h.1 k, k.has h.2 nmN⟩⟩
  refine ⟨_, _, hg, h w.heap.size (hX w hs).size hg, _, ⟨hG.keep _ _ hs ((Chg.refl [] w).alloc _), has_alloc_new w _⟩, fun K hK => ?_⟩
  unfold Oper.wp
  rw [ho w]
  show K (a.put o.dst _) _
  rw [hd]
  exact hK
end

end Go.Proofs.YtkcfbacapaonaaaDoor
