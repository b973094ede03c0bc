/- Package beat: the watch as plain data; panel, moment, has, late, quiet. -/
import Derived.Test.YtogianigkpldcaaBeatA
import Derived.Deep.RegionWith
namespace Go.Proofs.Ytogianigkpldcaa
set_option linter.unusedVariables false
set_option linter.unusedSimpArgs false
open Go.RowKit

theorem own_shape {w : World} {base : Nat} {e : TypeId} {size : Nat} {v : Value} {n : Nat} {xs : List Value} (h : w.ownsRow base e size v n xs) : ∃ a cap, v = .slice a n cap := by
  rcases h.2 with ⟨rfl, h0⟩ | ⟨g, cap, cur, rfl, _⟩
  · exact ⟨none, 0, by rw [h0]⟩
  · exact ⟨_, _, rfl⟩

/-- A row of whole numbers of the call's own, read, at whatever length. -/
theorem own_readsI {w : World} {base : Nat} {a : Option Addr} {n cap : Nat} {zs : List Int} {T : TypeId} (h : w.ownsRow base T 1 (.slice a n cap) n (ints zs)) : ReadsI w a zs ∧ zs.length = n := by
  have hlen : zs.length = n := by have := h.1; simpa [ints] using this
  refine ⟨fun h0 => ?_, hlen⟩
  obtain ⟨g, cap2, cur, hv, hR, _⟩ := own_ints h (by omega)
  injection hv with hv _ _
  subst hv
  exact hR h0

/-- What is known of a node. -/
structure Pr where
  heard : Int
  timeout : Int
  silent : Bool

/-- Block q holds what is known of the nodes 0 to n. -/
def Prs (w : World) (q n : Nat) (t : TypeId) (f : Nat → Pr) : Prop :=
  ∃ cs : Array Value, w.heap[q]? = some (.cells cs t (0, 0)) ∧ ∀ i, i ≤ n → cs[i * 3]? = some (.int .i64 (f i).heard) ∧ cs[i * 3 + 1]? = some (.int .i64 (f i).timeout) ∧ cs[i * 3 + 2]? = some (.bool (f i).silent)

/-- What holds of a watch's numbers. -/
structure PrOK (n : Nat) (me now : Int) (f : Nat → Pr) : Prop where
  hn : 1 ≤ n ∧ n ≤ 10
  hs : 1 ≤ me ∧ me ≤ n
  hnow : 0 ≤ now ∧ now ≤ 1099511627776
  hf : ∀ i, i ≤ n → 0 ≤ (f i).heard ∧ (f i).heard ≤ now ∧ 1 ≤ (f i).timeout ∧ (f i).timeout ≤ 64

structure WT (w : World) (p q n : Nat) (me now : Int) (f : Nat → Pr) : Prop where
  hp : w.heap[p]? = some (.cells #[.int .i64 me, .int .i64 now, .slice (some ⟨q, 0, none⟩) (n + 1) (n + 1)] 67 (0, 0))
  hq : Prs w q n 65 f
  ok : PrOK n me now f

theorem Prs.chg {S : List Nat} {w w' : World} {q n : Nat} {t : TypeId} {f : Nat → Pr} (h : Prs w q n t f) (hc : Chg S w w') (hs : q ∉ S) : Prs w' q n t f := by
  obtain ⟨cs, h1, h2⟩ := h
  exact ⟨cs, hc.has h1 hs, h2⟩
theorem WT.chg0 {w w' : World} {p q n : Nat} {me now : Int} {f : Nat → Pr} (h : WT w p q n me now f) (hc : Chg [] w w') : WT w' p q n me now f :=
  ⟨hc.has h.hp (by simp), h.hq.chg hc (by simp), h.ok⟩
theorem WT.chg {S : List Nat} {w w' : World} {p q n : Nat} {me now : Int} {f : Nat → Pr} (h : WT w p q n me now f) (hc : Chg S w w') (h1 : p ∉ S) (h2 : q ∉ S) : WT w' p q n me now f :=
  ⟨hc.has h.hp h1, h.hq.chg hc h2, h.ok⟩
theorem Prs.lt {w : World} {q n : Nat} {t : TypeId} {f : Nat → Pr} (h : Prs w q n t f) : q < w.heap.size := by
  obtain ⟨cs, h1, h2⟩ := h
  exact lt_of_has h1
theorem Prs.c0 {w : World} {q n : Nat} {t : TypeId} {f : Nat → Pr} (h : Prs w q n t f) {i : Nat} (hi : i ≤ n) : w.cell? ⟨q, i * 3, none⟩ = some (.int .i64 (f i).heard) := by
  obtain ⟨cs, h1, h2⟩ := h
  rw [cell_of_has h1]; exact (h2 i hi).1
theorem Prs.c1 {w : World} {q n : Nat} {t : TypeId} {f : Nat → Pr} (h : Prs w q n t f) {i : Nat} (hi : i ≤ n) : w.cell? ⟨q, i * 3 + 1, none⟩ = some (.int .i64 (f i).timeout) := by
  obtain ⟨cs, h1, h2⟩ := h
  rw [cell_of_has h1]; exact (h2 i hi).2.1
theorem Prs.c2 {w : World} {q n : Nat} {t : TypeId} {f : Nat → Pr} (h : Prs w q n t f) {i : Nat} (hi : i ≤ n) : w.cell? ⟨q, i * 3 + 2, none⟩ = some (.bool (f i).silent) := by
  obtain ⟨cs, h1, h2⟩ := h
  rw [cell_of_has h1]; exact (h2 i hi).2.2
theorem Prs.fz {w : World} {q n : Nat} {t : TypeId} {f : Nat → Pr} (h : Prs w q n t f) (j : Nat) : w.frozen? ⟨q, j, none⟩ = false := by
  obtain ⟨cs, h1, h2⟩ := h
  exact frozen_of_has h1 j

/-- A store of one cell. -/
theorem Prs.set0 {w : World} {q n : Nat} {t : TypeId} {f : Nat → Pr} (h : Prs w q n t f) (k : Nat) (v : Int) :
    Prs (w.setCell ⟨q, k * 3, none⟩ (.int .i64 v)) q n t (fun i => if i = k then { f i with heard := v } else f i) := by
  obtain ⟨cs, h1, h2⟩ := h
  refine ⟨_, has_set h1 _ _, fun i hi => ?_⟩
  obtain ⟨a, b, c⟩ := h2 i hi
  have ha : i * 3 < cs.size := (Array.getElem?_eq_some_iff.1 a).1
  by_cases e : i = k
  · subst e
    simp only [Array.getElem?_setIfInBounds, if_true]
    refine ⟨by simp [ha], by rw [if_neg (by omega)]; exact b, by rw [if_neg (by omega)]; exact c⟩
  · simp only [Array.getElem?_setIfInBounds, if_neg e]
    exact ⟨by rw [if_neg (by omega)]; exact a, by rw [if_neg (by omega)]; exact b, by rw [if_neg (by omega)]; exact c⟩
theorem Prs.set1 {w : World} {q n : Nat} {t : TypeId} {f : Nat → Pr} (h : Prs w q n t f) (k : Nat) (v : Int) :
    Prs (w.setCell ⟨q, k * 3 + 1, none⟩ (.int .i64 v)) q n t (fun i => if i = k then { f i with timeout := v } else f i) := by
  obtain ⟨cs, h1, h2⟩ := h
  refine ⟨_, has_set h1 _ _, fun i hi => ?_⟩
  obtain ⟨a, b, c⟩ := h2 i hi
  have ha : i * 3 + 1 < cs.size := (Array.getElem?_eq_some_iff.1 b).1
  by_cases e : i = k
  · subst e
    simp only [Array.getElem?_setIfInBounds, if_true]
    refine ⟨by rw [if_neg (by omega)]; exact a, by simp [ha], by rw [if_neg (by omega)]; exact c⟩
  · simp only [Array.getElem?_setIfInBounds, if_neg e]
    exact ⟨by rw [if_neg (by omega)]; exact a, by rw [if_neg (by omega)]; exact b, by rw [if_neg (by omega)]; exact c⟩
theorem Prs.set2 {w : World} {q n : Nat} {t : TypeId} {f : Nat → Pr} (h : Prs w q n t f) (k : Nat) (v : Bool) :
    Prs (w.setCell ⟨q, k * 3 + 2, none⟩ (.bool v)) q n t (fun i => if i = k then { f i with silent := v } else f i) := by
  obtain ⟨cs, h1, h2⟩ := h
  refine ⟨_, has_set h1 _ _, fun i hi => ?_⟩
  obtain ⟨a, b, c⟩ := h2 i hi
  have ha : i * 3 + 2 < cs.size := (Array.getElem?_eq_some_iff.1 c).1
  by_cases e : i = k
  · subst e
    simp only [Array.getElem?_setIfInBounds, if_true]
    refine ⟨by rw [if_neg (by omega)]; exact a, by rw [if_neg (by omega)]; exact b, by simp [ha]⟩
  · simp only [Array.getElem?_setIfInBounds, if_neg e]
    exact ⟨by rw [if_neg (by omega)]; exact a, by rw [if_neg (by omega)]; exact b, by rw [if_neg (by omega)]; exact c⟩
theorem Prs.same {w : World} {q n : Nat} {t : TypeId} {f g : Nat → Pr} (h : Prs w q n t f) (e : ∀ i, i ≤ n → f i = g i) : Prs w q n t g := by
  obtain ⟨cs, h1, h2⟩ := h
  exact ⟨cs, h1, fun i hi => by rw [← e i hi]; exact h2 i hi⟩

/-- The numbers of nodes, below m, but one, that some check takes. -/
def oth (me : Int) (g : Nat → Bool) (m : Nat) : List Int := ((List.range m).filter (fun i : Nat => decide (1 ≤ i) && decide ((i : Int) ≠ me) && g i)).map (fun i : Nat => (i : Int))
theorem oth_zero (me : Int) (g : Nat → Bool) : oth me g 0 = [] := rfl
theorem oth_succ (me : Int) (g : Nat → Bool) (m : Nat) : oth me g (m + 1) = oth me g m ++ (if 1 ≤ m ∧ (m : Int) ≠ me ∧ g m = true then [(m : Int)] else []) := by
  unfold oth
  rw [List.range_succ, List.filter_append, List.map_append]
  congr 1
  by_cases h : 1 ≤ m ∧ (m : Int) ≠ me ∧ g m = true
  · rw [if_pos h]; simp [h.1, h.2.1, h.2.2]
  · rw [if_neg h]
    simp only [List.filter_cons, List.filter_nil]
    rw [if_neg]
    · rfl
    · simp only [Bool.and_eq_true, decide_eq_true_eq]
      rintro ⟨⟨a, b⟩, c⟩
      exact h ⟨a, b, c⟩
theorem oth_len (me : Int) (g : Nat → Bool) (m : Nat) : (oth me g m).length ≤ m := by
  unfold oth
  rw [List.length_map]
  exact Nat.le_trans (List.length_filter_le _ _) (by simp)
theorem oth_mem {me : Int} {g : Nat → Bool} {m : Nat} {x : Int} : x ∈ oth me g m ↔ ∃ i : Nat, x = i ∧ 1 ≤ i ∧ i < m ∧ (i : Int) ≠ me ∧ g i = true := by
  unfold oth
  simp only [List.mem_map, List.mem_filter, List.mem_range, Bool.and_eq_true, decide_eq_true_eq]
  constructor
  · rintro ⟨i, ⟨h1, ⟨h2, h3⟩, h4⟩, rfl⟩; exact ⟨i, rfl, h2, h1, h3, h4⟩
  · rintro ⟨i, rfl, h2, h1, h3, h4⟩; exact ⟨i, ⟨h1, ⟨h2, h3⟩, h4⟩, rfl⟩
theorem oth_congr {me : Int} {g h : Nat → Bool} {m : Nat} (e : ∀ i, i < m → 1 ≤ i → (i : Int) ≠ me → g i = h i) : oth me g m = oth me h m := by
  unfold oth
  congr 1
  apply List.filter_congr
  intro i hi
  have hi := List.mem_range.1 hi
  by_cases h1 : 1 ≤ i
  · by_cases h2 : (i : Int) ≠ me
    · rw [e i hi h1 h2]
    · simp [h2]
  · simp [h1]

def lateB (now : Int) (f : Nat → Pr) (i : Nat) : Bool := !(f i).silent && decide ((f i).timeout < now - (f i).heard)
def quietB (f : Nat → Pr) (i : Nat) : Bool := (f i).silent

theorem beat_panel (n : Int) (w : World) : Calls Try.prog 24 #[.int .i64 n] w fun e w' => e = .returned (.bool (decide (1 ≤ n) && decide (n ≤ 10))) ∧ w = w' := by
  by_cases h1 : 1 ≤ n
  · by_cases h2 : n ≤ 10
    · go_enter Try.func24, Try.ntmps24
      go_wp2_with fail
      go_ret
      exact ⟨by simp [h1, h2], rfl⟩
    · go_enter Try.func24, Try.ntmps24
      go_wp2_with fail
      go_ret
      exact ⟨by simp [h1, h2], rfl⟩
  · go_enter Try.func24, Try.ntmps24
    go_wp2_with fail
    go_ret
    exact ⟨by simp; omega, rfl⟩

theorem beat_moment (n l : Int) (w : World) : Calls Try.prog 25 #[.int .i64 n, .int .i64 l] w fun e w' => e = .returned (.bool (decide (l ≤ n) && decide (n ≤ 1099511627776))) ∧ w = w' := by
  by_cases h1 : l ≤ n
  · by_cases h2 : n ≤ 1099511627776
    · go_enter Try.func25, Try.ntmps25
      go_wp2_with fail
      go_ret
      exact ⟨by simp [h1, h2], rfl⟩
    · go_enter Try.func25, Try.ntmps25
      go_wp2_with fail
      go_ret
      exact ⟨by simp [h1, h2], rfl⟩
  · go_enter Try.func25, Try.ntmps25
    go_wp2_with fail
    go_ret
    exact ⟨by simp; omega, rfl⟩

theorem beat_has_nil (x : Int) (w : World) : Calls Try.prog 29 #[.pointer none, .int .i64 x] w fun e w' => e = .returned (.bool false) ∧ w = w' := by
  go_enter Try.func29, Try.ntmps29
  go_wp2_with fail
  go_ret
  exact ⟨rfl, rfl⟩

theorem beat_has (p q n : Nat) (me now : Int) (f : Nat → Pr) (x : Int) (w : World) (hW : WT w p q n me now f) :
    Calls Try.prog 29 #[.pointer (some ⟨p, 0, none⟩), .int .i64 x] w fun e w' => e = .returned (.bool (decide (1 ≤ x) && decide (x < n + 1))) ∧ w = w' := by
  have c2 : w.cell? ⟨p, 2, none⟩ = some (.slice (some ⟨q, 0, none⟩) (n + 1) (n + 1)) := cell_of_has hW.hp 2
  have hn := hW.ok.hn
  clear hW
  by_cases h1 : 1 ≤ x
  · by_cases h2 : x < n + 1
    · go_enter Try.func29, Try.ntmps29
      go_wp2_with fail
      go_ret
      exact ⟨by simp [h1, h2], rfl⟩
    · go_enter Try.func29, Try.ntmps29
      go_wp2_with fail
      go_ret
      exact ⟨by simp [h1, h2], rfl⟩
  · go_enter Try.func29, Try.ntmps29
    go_wp2_with fail
    go_ret
    exact ⟨by simp; omega, rfl⟩

theorem beat_quiet (p q n : Nat) (me now : Int) (f : Nat → Pr) (k : Nat) (w : World) (hW : WT w p q n me now f) (hk : k ≤ n) :
    Calls Try.prog 30 #[.pointer (some ⟨p, 0, none⟩), .int .i64 k] w fun e w' => e = .returned (.bool (quietB f k)) ∧ w = w' := by
  have c2 : w.cell? ⟨p, 2, none⟩ = some (.slice (some ⟨q, 0, none⟩) (n + 1) (n + 1)) := cell_of_has hW.hp 2
  have d2 := hW.hq.c2 hk
  have hn := hW.ok.hn
  clear hW
  go_enter Try.func30, Try.ntmps30
  go_wp2_with fail
  go_ret
  exact ⟨rfl, rfl⟩

set_option maxHeartbeats 1000000 in
theorem beat_late (p q n : Nat) (me now : Int) (f : Nat → Pr) (k : Nat) (w : World) (hW : WT w p q n me now f) (hk : k ≤ n) :
    Calls Try.prog 27 #[.pointer (some ⟨p, 0, none⟩), .int .i64 k] w fun e w' => e = .returned (.bool (lateB now f k)) ∧ Chg [] w w' := by
  have c1 : w.cell? ⟨p, 1, none⟩ = some (.int .i64 now) := cell_of_has hW.hp 1
  have c2 : w.cell? ⟨p, 2, none⟩ = some (.slice (some ⟨q, 0, none⟩) (n + 1) (n + 1)) := cell_of_has hW.hp 2
  have d0 := hW.hq.c0 hk
  have d1 := hW.hq.c1 hk
  have d2 := hW.hq.c2 hk
  have hn := hW.ok.hn
  have hnow := hW.ok.hnow
  have hf := hW.ok.hf k hk
  have hpl := lt_of_has hW.hp
  have hql := hW.hq.lt
  have HE : ∀ b, b = lateB now f k → Ending.returned (.bool b) = Ending.returned (.bool (lateB now f k)) := fun b h => by rw [h]
  unfold lateB at HE ⊢
  clear hW
  generalize f k = x at *
  obtain ⟨he, ti, si⟩ := x
  simp only at *
  cases si
  · by_cases hlt : ti < now - he
    · have e : decide (ti < now - he) = true := by simp [hlt]
      clear HE
      go_enter Try.func27, Try.ntmps27
      go_wp2_with fail
      go_quiet (fail)
      go_wp2_with fail
      go_ret
      refine ⟨by simp [hlt], ?_⟩
      repeat (with_reducible first | exact Chg.refl _ _ | refine Chg.setCell ?_ (Or.inr (Nat.le_refl _)) _ | apply Chg.drew | apply Chg.drewN | apply Chg.alloc)
    · clear HE
      go_enter Try.func27, Try.ntmps27
      go_wp2_with fail
      go_quiet (fail)
      go_wp2_with fail
      go_ret
      refine ⟨by simp [hlt], ?_⟩
      repeat (with_reducible first | exact Chg.refl _ _ | refine Chg.setCell ?_ (Or.inr (Nat.le_refl _)) _ | apply Chg.drew | apply Chg.drewN | apply Chg.alloc)
  · clear HE
    go_enter Try.func27, Try.ntmps27
    go_wp2_with fail
    go_quiet (fail)
    go_wp2_with fail
    go_ret
    refine ⟨by simp, ?_⟩
    repeat (with_reducible first | exact Chg.refl _ _ | refine Chg.setCell ?_ (Or.inr (Nat.le_refl _)) _ | apply Chg.drew | apply Chg.drewN | apply Chg.alloc)

end Go.Proofs.Ytogianigkpldcaa
