/- QueueKeeps: the plain part: the law's own lists beside the queue. -/
import Derived.Test.YtgiackgdceanhaaQueueR
import Derived.Laws.Tables
namespace Go.Proofs.Ytgiackgdceanhaa
set_option linter.unusedVariables false
set_option linter.unusedSimpArgs false
open Go.RowKit

/-- A step, as its cells. -/
structure St where
  what : Int
  id : Int
  m : ByteArray
  s : Sg

def St.cells (x : St) : List Value := [.int .i64 x.what, .int .i64 x.id, .string x.m, .int .u64 x.s.x0, .int .u64 x.s.x1, .int .u64 x.s.x2, .int .u64 x.s.x3, .int .u64 x.s.y0, .int .u64 x.s.y1, .int .u64 x.s.y2, .int .u64 x.s.y3, .bool x.s.inf, .int .u64 x.s.z0, .int .u64 x.s.z1, .int .u64 x.s.z2, .int .u64 x.s.z3]

/-- A slice value that reads as a list of steps. -/
def ReadsS (w : World) (A : Option Addr) (l : List St) : Prop :=
  0 < l.length → ∃ b off, A = some ⟨b, off, none⟩ ∧ b < w.heap.size ∧ ∀ (i : Nat) (x : St), l[i]? = some x → ∀ j, j < 16 → w.cell? ⟨b, off + i * 16 + j, none⟩ = x.cells[j]?

theorem ReadsS.chg {S : List Nat} {w w' : World} {A : Option Addr} {l : List St} (h : ReadsS w A l) (hc : Chg S w w') (hs : ∀ b off, A = some ⟨b, off, none⟩ → b ∉ S) : ReadsS w' A l := fun hn => by
  obtain ⟨b, off, e, hb, hx⟩ := h hn
  exact ⟨b, off, e, Nat.lt_of_lt_of_le hb hc.size, fun i x hi j hj => (World.cell?_of_block (hc.block b hb (hs b off e))).trans (hx i x hi j hj)⟩

/-- A finished request of the law's list. -/
structure Dn where
  id : Int
  m : ByteArray
  s : Sg

def Dn.cells (x : Dn) : List Value := [.int .i64 0, .int .i64 x.id, .string x.m, .int .u64 x.s.x0, .int .u64 x.s.x1, .int .u64 x.s.x2, .int .u64 x.s.x3, .int .u64 x.s.y0, .int .u64 x.s.y1, .int .u64 x.s.y2, .int .u64 x.s.y3, .bool x.s.inf, .int .u64 x.s.z0, .int .u64 x.s.z1, .int .u64 x.s.z2, .int .u64 x.s.z3]
def stepCells (D : List Dn) : List Value := D.flatMap Dn.cells

theorem flat_get {α : Type} (f : α → List Value) (c : Nat) (hf : ∀ x, (f x).length = c) : ∀ (l : List α) (j : Nat) (x : α), l[j]? = some x → ∀ k, k < c → (l.flatMap f)[j * c + k]? = (f x)[k]?
  | [], j, x, h, _, _ => by simp at h
  | y :: l, 0, x, h, k, hk => by
    simp at h; subst h
    rw [List.flatMap_cons, Nat.zero_mul, Nat.zero_add, List.getElem?_append_left (by rw [hf]; exact hk)]
  | y :: l, j + 1, x, h, k, hk => by
    rw [List.flatMap_cons, List.getElem?_append_right (by rw [hf, Nat.add_mul]; omega), hf]
    have e : (j + 1) * c + k - c = j * c + k := by rw [Nat.add_mul]; omega
    rw [e]
    exact flat_get f c hf l j x (by simpa using h) k hk

theorem flat_len {α : Type} (f : α → List Value) (c : Nat) (hf : ∀ x, (f x).length = c) : ∀ l : List α, (l.flatMap f).length = l.length * c
  | [] => by simp
  | y :: l => by rw [List.flatMap_cons, List.length_append, hf, flat_len f c hf l, List.length_cons, Nat.add_mul]; omega

def DoneOK (l : List Ent) (D : List Dn) : Prop := ∀ d ∈ D, ∃ e ∈ l, e.id = d.id ∧ e.m = d.m ∧ e.done = true ∧ e.s = d.s
def AllOk (l : List Ent) : Prop := ∀ e ∈ l, okReq e.id e.m

theorem ent_same {l : List Ent} (hn : (l.map Ent.id).Nodup) {a b : Ent} (ha : a ∈ l) (hb : b ∈ l) (h : a.id = b.id) : a = b := by
  have h1 := fnd_mem hn ha
  have h2 := fnd_mem hn hb
  rw [h, h2] at h1
  injection h1 with h1
  exact h1.symm

theorem allOk_fin {l : List Ent} {id : Int} {s : Sg} (h : AllOk l) : AllOk (finL l id s) := by
  intro e he
  unfold finL at he
  obtain ⟨e1, h1, rfl⟩ := List.mem_map.1 he
  have := h e1 h1
  split <;> exact this

theorem doneOK_fin {l : List Ent} {D : List Dn} {e0 : Ent} {s : Sg} (hn : (l.map Ent.id).Nodup) (he : e0 ∈ l) (hd : e0.done = false) (h : DoneOK l D) : DoneOK (finL l e0.id s) (D ++ [⟨e0.id, e0.m, s⟩]) := by
  intro d hdm
  rcases List.mem_append.1 hdm with hdm | hdm
  · obtain ⟨e, h1, h2, h3, h4, h5⟩ := h d hdm
    refine ⟨e, ?_, h2, h3, h4, h5⟩
    unfold finL
    refine List.mem_map.2 ⟨e, h1, ?_⟩
    rw [if_neg]
    intro hx
    have := ent_same hn h1 he hx
    subst this
    rw [hd] at h4; cases h4
  · obtain rfl := List.mem_singleton.1 hdm
    refine ⟨{ e0 with done := true, s := s }, ?_, rfl, rfl, rfl, rfl⟩
    unfold finL
    exact List.mem_map.2 ⟨e0, he, by rw [if_pos rfl]⟩

theorem subL_cases (l : List Ent) (id : Int) (m : ByteArray) (b : Nat) :
    (okReq id m ∧ (∀ e ∈ l, e.id ≠ id) ∧ (waits l).length ≠ 8 ∧ subCode l id m = 1 ∧ subL l id m b = l ++ [⟨id, m, false, .zero, b⟩]) ∨
    (subL l id m b = l ∧ (subCode l id m = 2 → (waits l).length = 8) ∧ (subCode l id m = 1 ∨ subCode l id m = 2 ∨ subCode l id m = 3 ∨ subCode l id m = 4)) := by
  by_cases hok : okReq id m
  · cases hf : fnd l id with
    | some e =>
      refine Or.inr ⟨by simp [subL, hok, hf], ?_, ?_⟩
      · simp only [subCode, if_pos hok, hf, knCode]
        repeat' split
        all_goals simp
      · simp only [subCode, if_pos hok, hf, knCode]
        repeat' split
        all_goals simp
    | none =>
      by_cases h8 : (waits l).length = 8
      · exact Or.inr ⟨by simp [subL, hf, h8], by simp [h8], by simp [subCode, hok, hf, h8]⟩
      · exact Or.inl ⟨hok, fnd_none hf, h8, by simp [subCode, hok, hf, h8], by simp [subL, hok, hf, h8]⟩
  · exact Or.inr ⟨by simp [subL, hok], by simp [subCode, hok], by simp [subCode, hok]⟩

theorem allOk_snoc {l : List Ent} {id : Int} {m : ByteArray} {b : Nat} (h : AllOk l) (hok : okReq id m) : AllOk (l ++ [⟨id, m, false, .zero, b⟩]) := by
  intro e he
  rcases List.mem_append.1 he with he | he
  · exact h e he
  · obtain rfl := List.mem_singleton.1 he; exact hok
theorem doneOK_snoc {l : List Ent} {D : List Dn} {e' : Ent} (h : DoneOK l D) : DoneOK (l ++ [e']) D := by
  intro d hd
  obtain ⟨e, h1, h2⟩ := h d hd
  exact ⟨e, List.mem_append.2 (Or.inl h1), h2⟩

/-- The law's lists beside the queue. -/
structure Kp (w : World) (base q r : Nat) (v ov dv : Value) (l : List Ent) (D : List Dn) : Prop where
  hQ : QN w base q r v l
  hk : w.ownsRow base 3 1 ov (waits l).length (ints (waits l))
  hs : ∀ b, ov.ownBlock = some b → v.ownBlock ≠ some b
  hd : w.ownsRow base 44 16 dv D.length (stepCells D)
  hD : DoneOK l D
  hA : AllOk l

theorem Kp.chg0 {w w' : World} {base q r : Nat} {v ov dv : Value} {l : List Ent} {D : List Dn} (h : Kp w base q r v ov dv l D) (hC : Chg [] w w') : Kp w' base q r v ov dv l D :=
  ⟨h.hQ.chg0 hC, own_chg h.hk hC (by simp), h.hs, own_chg h.hd hC (by simp), h.hD, h.hA⟩

theorem elem_step : ElemOK Try.prog 42 44 (.agg #[.int .i64 0, .int .i64 0, .string ⟨#[]⟩, .int .u64 0, .int .u64 0, .int .u64 0, .int .u64 0, .int .u64 0, .int .u64 0, .int .u64 0, .int .u64 0, .bool false, .int .u64 0, .int .u64 0, .int .u64 0, .int .u64 0]) 16 136 := ⟨Try.underlying42, by kernel_rfl, rfl, by decide⟩

/-- What Submit leaves of a row of another kind. -/
theorem own_submit' {w w' : World} {base q r : Nat} {v dv : Value} {l : List Ent} {n c : Nat} {xs : List Value} {T : TypeId} (h : QN w base q r v l) (hk : w.ownsRow base T c dv n xs)
    (h1 : T ≠ 89) (h2 : T ≠ 3) (hC : Chg (q :: r :: v.ownBlock.toList) w w') : w'.ownsRow base T c dv n xs := by
  refine own_chg hk hC ?_
  intro b hb hm
  rcases List.mem_cons.1 hm with rfl | hm
  · exact own_ne hk h.hq h1 hb.symm
  · rcases List.mem_cons.1 hm with rfl | hm
    · exact own_ne_map hk h.hm hb.symm
    · rcases h.hv.2 with ⟨rfl, _⟩ | ⟨g, cap, cur, rfl, _, hg, _⟩
      · simp [Value.ownBlock] at hm
      · simp [Value.ownBlock] at hm
        subst hm
        exact own_ne hk hg h2 hb.symm

theorem kp_submit_old {w w2 : World} {base q r : Nat} {v v' ov dv : Value} {l : List Ent} {D : List Dn} (h : Kp w base q r v ov dv l D) (hQ : QN w2 base q r v' l)
    (hv : v'.ownBlock = v.ownBlock ∨ ∃ b, v'.ownBlock = some b ∧ w.heap.size ≤ b) (hC : Chg (q :: r :: v.ownBlock.toList) w w2) : Kp w2 base q r v' ov dv l D :=
  ⟨hQ, own_submit h.hQ h.hk h.hs hC, sep_submit h.hk h.hs hv, own_submit' h.hQ h.hd (by decide) (by decide) hC, h.hD, h.hA⟩

theorem submit_done {base q r : Nat} {v ov dv : Value} {l : List Ent} {D : List Dn} {w : World} (h : Kp w base q r v ov dv l D) {d : Dn} (hd : d ∈ D) :
    Calls Try.prog 14 #[.pointer (some ⟨q, 0, none⟩), .agg #[.int .i64 d.id, .string d.m]] w fun e w' => e = .returned (.tuple #[.int .i64 4, .agg #[.int .u64 d.s.x0, .int .u64 d.s.x1, .int .u64 d.s.x2, .int .u64 d.s.x3, .int .u64 d.s.y0, .int .u64 d.s.y1, .int .u64 d.s.y2, .int .u64 d.s.y3, .bool d.s.inf, .int .u64 d.s.z0, .int .u64 d.s.z1, .int .u64 d.s.z2, .int .u64 d.s.z3]]) ∧ Chg [] w w' := by
  obtain ⟨id, m, s⟩ := d
  obtain ⟨e0, he, h1, h2, h3, h4⟩ := h.hD _ hd
  simp only at h1 h2 h4
  subst h1; subst h2; subst h4
  refine (submit_known base q r v l e0 e0.m w h.hQ he (h.hA e0 he)).mono ?_
  rintro e w' ⟨rfl, hC⟩
  refine ⟨?_, hC⟩
  simp [knCode, knSig, h3, Sg.arr]

theorem own_step {w : World} {base : Nat} {D : List Dn} {a : Option Addr} {n cap : Nat} (h : w.ownsRow base 44 16 (.slice a n cap) n (stepCells D)) {j : Nat} {d : Dn} (he : D[j]? = some d) :
    ∃ g, a = some ⟨g, 0, none⟩ ∧ g < w.heap.size ∧ ∀ k, k < 16 → w.cell? ⟨g, j * 16 + k, none⟩ = d.cells[k]? := by
  have hj := (List.getElem?_eq_some_iff.1 he).1
  have hlen := h.1
  have hf := flat_len Dn.cells 16 (fun _ => rfl) D
  have hn : D.length = n := by
    have : (stepCells D).length = D.length * 16 := hf
    omega
  rcases h.2 with ⟨_, h0⟩ | ⟨g, cap', cur, hv, _, hg, _⟩
  · omega
  · injection hv with hv1 hv2 hv3
    subst hv1
    have hgg := flat_get Dn.cells 16 (fun _ => rfl) D j d he
    refine ⟨g, rfl, lt_of_has hg, fun k hk => ?_⟩
    have := h.cellAt (j * 16 + k) (by omega)
    rw [this]; exact hgg k hk

theorem own_req {w : World} {base : Nat} {l : List Ent} {a : Option Addr} {n cap : Nat} (h : w.ownsRow base 36 2 (.slice a n cap) n (reqCells l)) {j : Nat} (hj : j < l.length) {e : Ent} (he : l[j] = e) :
    ∃ g, a = some ⟨g, 0, none⟩ ∧ g < w.heap.size ∧ w.cell? ⟨g, j * 2, none⟩ = some (.int .i64 e.id) ∧ w.cell? ⟨g, j * 2 + 1, none⟩ = some (.string e.m) := by
  have hlen := h.1
  have hf := flat_len (fun e : Ent => [Value.int .i64 e.id, .string e.m]) 2 (fun _ => rfl) l
  have hn : l.length = n := by
    have : (reqCells l).length = l.length * 2 := hf
    omega
  rcases h.2 with ⟨_, h0⟩ | ⟨g, cap', cur, hv, _, hg, _⟩
  · omega
  · injection hv with hv1 hv2 hv3
    subst hv1
    have he' : l[j]? = some e := by rw [List.getElem?_eq_getElem hj, he]
    have hgg := flat_get (fun e : Ent => [Value.int .i64 e.id, .string e.m]) 2 (fun _ => rfl) l j e he'
    refine ⟨g, rfl, lt_of_has hg, ?_, ?_⟩
    · have := h.cellAt (j * 2) (by omega)
      rw [this]; exact hgg 0 (by omega)
    · have := h.cellAt (j * 2 + 1) (by omega)
      rw [this]; exact hgg 1 (by omega)

theorem num_self (a b c d : Int) (k : Nat) (w : World) :
    (Op.equalIn (k + 2) 28 (.agg #[.int .u64 a, .int .u64 b, .int .u64 c, .int .u64 d]) (.agg #[.int .u64 a, .int .u64 b, .int .u64 c, .int .u64 d])).run Try.prog w = .ok true w := by
  rw [num_eql]; simp

theorem has_ne {w : World} {a b : Nat} {c c' : Array Value} {t t' : TypeId} {f f' : Nat × Nat} (h : w.heap[a]? = some (.cells c t f)) (h' : w.heap[b]? = some (.cells c' t' f')) (hne : t ≠ t') : a ≠ b := by
  rintro rfl
  rw [h] at h'
  injection h' with h'
  injection h' with _ h2
  exact hne h2

theorem own_own_ne {w : World} {base base' : Nat} {e e' : TypeId} {size size' : Nat} {v v' : Value} {n n' : Nat} {xs xs' : List Value} (h : w.ownsRow base e size v n xs) (h' : w.ownsRow base' e' size' v' n' xs') (hne : e ≠ e') :
    ∀ b, v.ownBlock = some b → v'.ownBlock ≠ some b := by
  intro b hb hb'
  rcases h.2 with ⟨rfl, _⟩ | ⟨g, cap, cur, rfl, _, hg, _⟩
  · simp [Value.ownBlock] at hb
  · simp [Value.ownBlock] at hb
    subst hb
    exact own_ne h' hg (fun x => hne x.symm) hb'.symm

theorem own_base {w : World} {base base' : Nat} {e : TypeId} {size : Nat} {v : Value} {n : Nat} {xs : List Value} (h : w.ownsRow base e size v n xs) (hb : base' ≤ base) : w.ownsRow base' e size v n xs := by
  refine ⟨h.1, ?_⟩
  rcases h.2 with h0 | ⟨g, cap, cur, e1, h1, rest⟩
  · exact .inl h0
  · exact .inr ⟨g, cap, cur, e1, Nat.le_trans hb h1, rest⟩

theorem filter_pend {l : List Ent} {e0 : Ent} (hn : (l.map Ent.id).Nodup) (he : e0 ∈ l) (hd : e0.done = false) : (pend l).filter (fun e => e.id == e0.id) = [e0] := by
  induction l with
  | nil => cases he
  | cons a l ih =>
    simp only [List.map_cons, List.nodup_cons] at hn
    have hnone : ∀ e ∈ l, e.id ≠ a.id := fun e h1 h2 => hn.1 (List.mem_map.2 ⟨e, h1, h2⟩)
    rcases List.mem_cons.1 he with rfl | he
    · unfold pend
      rw [List.filter_cons]
      simp only [hd, Bool.not_false, if_true]
      rw [List.filter_cons]
      simp only [beq_self_eq_true, if_true]
      rw [List.filter_eq_nil_iff.2]
      intro e h1
      simpa using hnone e (List.mem_filter.1 h1).1
    · have hne : (a.id == e0.id) = false := by simpa using fun h : a.id = e0.id => hnone e0 he h.symm
      unfold pend
      rw [List.filter_cons]
      by_cases had : a.done
      · simp only [had, Bool.not_true, Bool.false_eq_true, if_false]
        exact ih hn.2 he
      · simp only [had, Bool.not_false, if_true]
        rw [List.filter_cons]
        simp only [hne, Bool.false_eq_true, if_false]
        exact ih hn.2 he

theorem filter_take_succ {α : Type} (f : α → Bool) {l : List α} {j : Nat} {x : α} (h : l[j]? = some x) : (l.take (j + 1)).filter f = (l.take j).filter f ++ (if f x then [x] else []) := by
  obtain ⟨hj, hx⟩ := List.getElem?_eq_some_iff.1 h
  rw [List.take_succ_eq_append_getElem hj, List.filter_append, hx]
  congr 1
  rw [List.filter_cons]; rfl

/-- The law's lists once one is finished. -/
theorem kp_finish {w w3 w4 wf : World} {base q r : Nat} {v v4 ov dv rv dv' : Value} {l : List Ent} {D : List Dn} {e0 : Ent} {s : Sg} (h : Kp w base q r v ov dv l D) (he : e0 ∈ l) (hd : e0.done = false)
    (hQ : QN w3 base q r v4 (finL l e0.id s)) (hdv : w3.ownsRow base 44 16 dv D.length (stepCells D))
    (hrv : w4.ownsRow w3.heap.size 3 1 rv ((waits l).filter (· ≠ e0.id)).length (ints ((waits l).filter (· ≠ e0.id)))) (hC4 : Chg [] w3 w4)
    (hdv' : wf.ownsRow base 44 16 dv' (D ++ [(⟨e0.id, e0.m, s⟩ : Dn)]).length (stepCells (D ++ [(⟨e0.id, e0.m, s⟩ : Dn)]))) (hCf : Chg dv.ownBlock.toList w4 wf) :
    Kp wf base q r v4 rv dv' (finL l e0.id s) (D ++ [⟨e0.id, e0.m, s⟩]) := by
  have hdv4 := own_chg hdv hC4 (by simp)
  have hQ4 := hQ.chg0 hC4
  have hb3 : base ≤ w3.heap.size := by have := lt_of_has hQ.hq; have := hQ.hbase.1; omega
  refine ⟨hQ4.chg hCf ?_ ?_ ?_ ?_, ?_, ?_, hdv', doneOK_fin h.hQ.hn he hd h.hD, allOk_fin h.hA⟩
  · intro hm; exact own_ne hdv4 hQ4.hq (by decide) (Option.mem_toList.1 hm).symm
  · intro hm; exact own_ne_map hdv4 hQ4.hm (Option.mem_toList.1 hm).symm
  · intro e he hm; exact own_ne hdv4 (hQ4.hk e he) (by decide) (Option.mem_toList.1 hm).symm
  · intro b hb hm; exact own_own_ne hdv4 hQ4.hv (by decide) b (Option.mem_toList.1 hm) hb
  · rw [finL_waits_filter]
    refine own_base (own_chg hrv hCf ?_) hb3
    intro b hb hm
    exact own_own_ne hdv4 hrv (by decide) b (Option.mem_toList.1 hm) hb
  · intro b hb hx
    have h1 := (hrv.lt b hb).1
    have h2 := (hQ.hv.lt b hx).2
    omega

/-- The finished ones once j of those that wait were looked at. -/
def dnL (D : List Dn) (ps : List Ent) (id : Int) (s : Sg) (j : Nat) : List Dn := D ++ ((ps.take j).filter (fun e => e.id == id)).map (fun e => ⟨e.id, e.m, s⟩)
theorem dnL_succ (D : List Dn) (ps : List Ent) (id : Int) (s : Sg) {j : Nat} {e : Ent} (h : ps[j]? = some e) : dnL D ps id s (j + 1) = dnL D ps id s j ++ (if e.id = id then [⟨e.id, e.m, s⟩] else []) := by
  unfold dnL
  rw [filter_take_succ _ h, List.map_append, List.append_assoc]
  congr 2
  by_cases hx : e.id = id <;> simp [hx]
theorem dnL_len (D : List Dn) (ps : List Ent) (id : Int) (s : Sg) (j : Nat) : (dnL D ps id s j).length ≤ D.length + j := by
  unfold dnL
  have h1 := List.length_filter_le (fun e : Ent => e.id == id) (ps.take j)
  have h2 := List.length_take_le j ps
  simp only [List.length_append, List.length_map]; omega

theorem kp_sep {w : World} {base q r : Nat} {v ov dv : Value} {l : List Ent} {D : List Dn} (h : Kp w base q r v ov dv l D) : ∀ b, dv.ownBlock = some b → w.heap.size ≠ b := fun b hb he => by
  have := (h.hd.lt b hb).2
  omega

theorem own_snoc_step {w : World} {base : Nat} {v : Value} {D : List Dn} {d : Dn} (h : w.ownsRow base 44 16 v (D.length + 1) (stepCells D ++ d.cells)) :
    w.ownsRow base 44 16 v (D ++ [d]).length (stepCells (D ++ [d])) := by
  have e : stepCells (D ++ [d]) = stepCells D ++ d.cells := by simp [stepCells]
  rw [e, List.length_append]
  exact h

/-- A composite literal as one step, by its cells. -/
theorem wpList_build {P : Program} {w : World} {ops : Array Oper} {rest : List Oper} {o : Oper} {a : Act} {Q : Exit → Act → World → Prop} (hgd : o.guard = none) (t : TypeId) (parts : Array (Nat × Operand))
    (ho : o.op = .build t parts) (vals : List (Nat × Value)) (hv : (parts.map fun (i, x) => (i, a.eval x)).toList = vals) (cells : Array Value) (hc : P.built t vals = some cells)
    (h : wpList P ops Q rest (a.put o.dst (.agg cells)) w) : wpList P ops Q (o :: rest) a w := by
  refine wpList_plain hgd fun K hK => ?_
  subst hv
  refine wp_build t parts ho (by rw [hc]; rfl) ?_
  rw [hc]
  exact hK _ _ h

/-- The law's lists once a new one was accepted. -/
theorem kp_submit_new {w5 w6 : World} {base q r b n : Nat} {v' ov v3 dv : Value} {l : List Ent} {D : List Dn} {id : Int} {m : ByteArray} {xs : List Value} (hQ : QN w5 base q r v' (l ++ [⟨id, m, false, .zero, b⟩]))
    (hov : w5.ownsRow base 3 1 ov n xs) (hs : ∀ b, ov.ownBlock = some b → v'.ownBlock ≠ some b) (hd : w5.ownsRow base 44 16 dv D.length (stepCells D)) (hD : DoneOK l D) (hA : AllOk l) (hok : okReq id m)
    (hg : w5.grownBy w6 ov.ownBlock) (hat : v3.ownBlock = ov.ownBlock ∨ v3.ownBlock = some w5.heap.size) (ho : w6.ownsRow base 3 1 v3 ((waits l).length + 1) (ints (waits l) ++ [.int .i64 id])) :
    Kp w6 base q r v' v3 dv (l ++ [⟨id, m, false, .zero, b⟩]) D := by
  have hC : Chg ov.ownBlock.toList w5 w6 := (Chg.refl _ w5).grown hg (by intro k hk; left; simp [hk])
  have hws := waits_snoc l ⟨id, m, false, .zero, b⟩ rfl
  refine ⟨hQ.grown hov hs hg, ?_, ?_, own_chg hd hC (fun b hb hm => own_own_ne hd hov (by decide) b hb (Option.mem_toList.1 hm)), doneOK_snoc hD, allOk_snoc hA hok⟩
  · rw [hws, List.length_append]; simpa [ints] using ho
  · intro b3 hb3 hx
    rcases hat with h | h
    · exact hs b3 (h.symm.trans hb3) hx
    · rw [h] at hb3
      injection hb3 with hb3
      have := (hQ.hv.lt b3 hx).2
      omega

end Go.Proofs.Ytgiackgdceanhaa
