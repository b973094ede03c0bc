/- BeatNil, BeatRound: the walks of the laws. -/
import Derived.Test.YtogianigkpldcaaBeatF
import Derived.Test.YtogianigkpldcaaOpen
import Derived.ChangeShapes
namespace Go.Proofs.Ytogianigkpldcaa
set_option linter.unusedVariables false
set_option linter.unusedSimpArgs false
open Go.RowKit

set_option maxHeartbeats 1000000 in
theorem beat_nil_any (n : Int) (W : World) : Calls Try.prog 7 #[.int .i64 n] W fun e w' => e = .returned (.bool true) ∧ Below W.heap.size W w' := by
  go_enter Try.func7, Try.ntmps7
  go_wp2_with (first
    | (go_at_call 12; refine (heard_nil n n _).mono ?_; rintro e w1 ⟨rfl, rfl⟩)
    | (go_at_call 11; refine (check_nil n _).mono ?_; rintro e w1 ⟨rfl, rfl⟩)
    | (go_at_call 14; refine (timeout_nil n _).mono ?_; rintro e w1 ⟨rfl, rfl⟩)
    | (go_at_call 13; refine (silent_nil _).mono ?_; rintro e w1 ⟨rfl, rfl⟩)
    | (go_at_call 20; refine (now_nil _).mono ?_; rintro e w1 ⟨rfl, rfl⟩))
  refine (five_ok _).mono ?_
  rintro e w6 ⟨rfl, hC6⟩
  go_wp2_with fail
  go_ret
  exact ⟨rfl, hC6.below⟩

theorem turn_bad (n view : Int) (w : World) (hb : ¬ (1 ≤ n ∧ n ≤ 10 ∧ 0 ≤ view ∧ view ≤ 1099511627776)) :
    Calls Try.prog 21 #[.int .i64 n, .int .i64 view] w fun e w' => e = .returned (.tuple #[.int .i64 0, .int .i64 1]) ∧ w = w' := by
  by_cases h : 1 ≤ n ∧ n ≤ 10
  · have e1 : (decide (1 ≤ n) && decide (n ≤ 10)) = true := by simp; omega
    have e2 : (decide (0 ≤ view) && decide (view ≤ 1099511627776)) = false := by simp; omega
    go_enter Try.func21, Try.ntmps21
    go_wp2_with (first
      | (go_at_call 24; refine (beat_panel n _).mono ?_; rw [e1]; rintro e w1 ⟨rfl, rfl⟩)
      | (go_at_call 25; refine (beat_moment view 0 _).mono ?_; rw [e2]; rintro e w1 ⟨rfl, rfl⟩))
    exact bodyPost_ret (v := .tuple #[.int .i64 0, .int .i64 1]) (by simp [results, Try.results21, go_sem]) rfl ⟨rfl, rfl⟩
  · have e1 : (decide (1 ≤ n) && decide (n ≤ 10)) = false := by simp; omega
    go_enter Try.func21, Try.ntmps21
    go_wp2_with (go_at_call 24; refine (beat_panel n _).mono ?_; rw [e1]; rintro e w1 ⟨rfl, rfl⟩)
    exact bodyPost_ret (v := .tuple #[.int .i64 0, .int .i64 1]) (by simp [results, Try.results21, go_sem]) rfl ⟨rfl, rfl⟩

theorem turn_ok (n view : Int) (w : World) (h1 : 1 ≤ n) (h2 : n ≤ 10) (h3 : 0 ≤ view) (h4 : view ≤ 1099511627776) :
    Calls Try.prog 21 #[.int .i64 n, .int .i64 view] w fun e w' => e = .returned (.tuple #[.int .i64 (view % n + 1), .int .i64 0]) ∧ w = w' := by
  have e1 : (decide (1 ≤ n) && decide (n ≤ 10)) = true := by simp; omega
  have e2 : (decide (0 ≤ view) && decide (view ≤ 1099511627776)) = true := by simp; omega
  have e3 : view.tmod n = view % n := Int.tmod_eq_emod_of_nonneg h3
  have b1 := Int.emod_nonneg view (b := n) (by omega)
  have b2 := Int.emod_lt_of_pos view (b := n) (by omega)
  obtain ⟨r, hr⟩ : ∃ r, view % n = r := ⟨_, rfl⟩
  rw [hr] at e3 b1 b2 ⊢
  have n0 : ¬ n = 0 := by omega
  have w1 : IntKind.i64.wrap r = r := IntWalk.i64_in _ (by omega)
  have w2 : IntKind.i64.wrap (r + 1) = r + 1 := IntWalk.i64_in _ (by omega)
  clear hr
  go_enter Try.func21, Try.ntmps21
  go_wp2_with (first
    | (go_at_call 24; refine (beat_panel n _).mono ?_; rw [e1]; rintro e w1 ⟨rfl, rfl⟩)
    | (go_at_call 25; refine (beat_moment view 0 _).mono ?_; rw [e2]; rintro e w1 ⟨rfl, rfl⟩))
  exact bodyPost_ret (v := .tuple #[.int .i64 (r + 1), .int .i64 0]) (by simp [results, Try.results21, go_sem]) rfl ⟨rfl, rfl⟩

theorem mod_ne {n v : Int} {i j : Nat} (hn : 0 < n) (hij : i < j) (hj : (j : Int) < n) : (v + i) % n ≠ (v + j) % n := by
  intro h
  have h1 : ((v + j) - (v + i)) % n = 0 := Int.emod_eq_emod_iff_emod_sub_eq_zero.1 h.symm
  have h2 : (v + j) - (v + i) = (j : Int) - i := by omega
  rw [h2, Int.emod_eq_of_lt (by omega) (by omega)] at h1
  omega

/-- Block b is eleven truth values. -/
def Seen (w : World) (b : Nat) (s : Nat → Bool) : Prop := ∃ cs : Array Value, w.heap[b]? = some (.cells cs 54 (0, 0)) ∧ ∀ j, j < 11 → cs[j]? = some (.bool (s j))
theorem Seen.set {w : World} {b : Nat} {s : Nat → Bool} (h : Seen w b s) (k : Nat) : Seen (w.setCell ⟨b, k, none⟩ (.bool true)) b (fun j => if j = k then true else s j) := by
  obtain ⟨cs, h1, h2⟩ := h
  refine ⟨_, has_set h1 _ _, fun j hj => ?_⟩
  have ha : j < cs.size := (Array.getElem?_eq_some_iff.1 (h2 j hj)).1
  by_cases e : j = k
  · subst e; simp [ha]
  · simp only [Array.getElem?_setIfInBounds, if_neg e]
    rw [if_neg (by omega)]; exact h2 j hj

set_option maxRecDepth 100000 in
set_option maxHeartbeats 1000000 in
theorem beat_round_any (n view : Int) (W : World) : Calls Try.prog 6 #[.int .i64 n, .int .i64 view] W fun e w' => e = .returned (.bool true) ∧ Below W.heap.size W w' := by
  by_cases hb : 1 ≤ n ∧ n ≤ 10 ∧ 0 ≤ view ∧ view ≤ 549755813888
  · obtain ⟨h1, h2, h3, h4⟩ := hb
    go_enter Try.func6, Try.ntmps6
    go_wp2_with fail
    obtain ⟨W1, hW1⟩ : ∃ W1, W.alloc (.cells #[.bool false, .bool false, .bool false, .bool false, .bool false, .bool false, .bool false, .bool false, .bool false, .bool false, .bool false] 54) = W1 := ⟨_, rfl⟩
    have hs1 : Seen W1 W.heap.size (fun _ => false) := by
      rw [← hW1]
      refine ⟨_, has_alloc_new _ _, fun j hj => ?_⟩
      have : j = 0 ∨ j = 1 ∨ j = 2 ∨ j = 3 ∨ j = 4 ∨ j = 5 ∨ j = 6 ∨ j = 7 ∨ j = 8 ∨ j = 9 ∨ j = 10 := by omega
      rcases this with rfl | rfl | rfl | rfl | rfl | rfl | rfl | rfl | rfl | rfl | rfl <;> rfl
    have hC1 : Chg [] W W1 := by rw [← hW1]; exact (Chg.refl _ _).alloc _
    rw [hW1]
    have HS1 := Lib.hid hs1; have HC1 := Lib.hid hC1
    clear hs1 hC1 hW1
    go_loopw [6] (fun i wr => ∃ (k : Nat) (s : Nat → Bool), (k : Int) ≤ n ∧ i = .int .i64 k ∧ Seen wr W.heap.size s ∧ (∀ j, s j = true → ∃ i : Nat, i < k ∧ (j : Int) = (view + i) % n + 1) ∧ Chg [] W wr) (fun i _ => n.toNat - (intOf i).toNat)
    case atStart => exact ⟨0, _, by omega, rfl, HS1.out, by simp, HC1.out⟩
    case round =>
      obtain ⟨k, s, hk, rfl, hs, hin, hC⟩ := hrel
      have HS := Lib.hid hs; have HIN := Lib.hid hin; have HC := Lib.hid hC
      clear hs hin hC
      by_cases hlt : (k : Int) < n
      · have b1 := Int.emod_nonneg (view + k) (b := n) (by omega)
        have b2 := Int.emod_lt_of_pos (view + k) (b := n) (by omega)
        have HM : Hid (∀ i : Nat, i < k → (view + i) % n ≠ (view + k) % n) := Lib.hid (fun i hi => mod_ne (by omega) hi hlt)
        have ht := turn_ok n (view + k) wr h1 h2 (by omega) (by omega)
        obtain ⟨r, hr⟩ : ∃ r : Nat, (view + k) % n = r := ⟨((view + k) % n).toNat, by omega⟩
        have HR := Lib.hid hr
        rw [hr] at ht b1 b2
        have hr11 : r + 1 < 11 := by omega
        have hsr : s (r + 1) = false := by
          cases h : s (r + 1) with
          | false => rfl
          | true =>
            obtain ⟨i, hi, he⟩ := HIN.out _ h
            have := HM.out i hi
            rw [HR.out] at this
            omega
        obtain ⟨cs, hcs, hce⟩ := HS.out
        have c1 : wr.cell? ⟨W.heap.size, r + 1, none⟩ = some (.bool false) := by rw [cell_of_has hcs, hce _ hr11, hsr]
        have z1 : wr.frozen? ⟨W.heap.size, r + 1, none⟩ = false := frozen_of_has hcs _
        have hll := lt_of_has hcs
        clear hr hcs hce hsr b1
        go_wp2_with (go_at_call 21; refine ht.mono ?_; rintro e w1 ⟨rfl, rfl⟩)
        refine ⟨⟨k + 1, _, by omega, by go_num, HS.out.set (r + 1), ?_, HC.out.setCell (Or.inr (Nat.le_refl _)) _⟩, by simp [intOf]; omega⟩
        intro j hj
        by_cases e : j = r + 1
        · exact ⟨k, by omega, by rw [HR.out, e]; omega⟩
        · rw [if_neg e] at hj
          obtain ⟨i, hi, he⟩ := HIN.out j hj
          exact ⟨i, by omega, he⟩
      · go_wp2_with fail
        refine (five_ok _).mono ?_
        rintro e w6 ⟨rfl, hC6⟩
        go_wp2_with fail
        go_ret
        exact ⟨rfl, (HC.out.trans hC6).below⟩
  · have hb' : n < 1 ∨ (1 ≤ n ∧ 10 < n) ∨ (1 ≤ n ∧ n ≤ 10 ∧ view < 0) ∨ (1 ≤ n ∧ n ≤ 10 ∧ 0 ≤ view ∧ 549755813888 < view) := by omega
    clear hb
    rcases hb' with h1 | ⟨h1, h2⟩ | ⟨h1, h2, h3⟩ | ⟨h1, h2, h3, h4⟩
    all_goals
      go_enter Try.func6, Try.ntmps6
      go_wp2_with fail
      refine (five_ok _).mono ?_
      rintro e w6 ⟨rfl, hC6⟩
      go_wp2_with fail
      go_ret
      exact ⟨rfl, hC6.below⟩

section
open Go.WideShapes Go.ChangeShapes
variable {H : Type} (enc : TypeId × Value → H) (W : World)

theorem beatNil_law {v0 : Value} {d0 : DataW H} {p0 : List MemPlace} {base : Nat}
    (h0 : DataW.Trod enc Try.prog W 0 (fun _ => true) true 3 v0 d0 p0) (k0 : Value.okWide Try.prog W .any base 3 v0)
    (_hsz : (DataW.weightsEach Try.prog [3] [d0]).all (· ≤ reachBytes) = true) :
    Calls Try.prog 7 #[v0] W fun e w' => e = .returned (.bool true) ∧ Below W.heap.size W w' := by
  obtain ⟨z, rfl, _⟩ := open_int (k := .i64) Try.underlying3 k0 h0
  exact beat_nil_any z W

theorem beatRound_law {v0 v1 : Value} {d0 d1 : DataW H} {p0 p1 : List MemPlace} {base : Nat}
    (h0 : DataW.Trod enc Try.prog W 0 (fun _ => true) true 3 v0 d0 p0) (k0 : Value.okWide Try.prog W .any base 3 v0)
    (h1 : DataW.Trod enc Try.prog W 0 (fun _ => true) true 3 v1 d1 p1) (k1 : Value.okWide Try.prog W .any base 3 v1)
    (_hsz : (DataW.weightsEach Try.prog [3, 3] [d0, d1]).all (· ≤ reachBytes) = true) :
    Calls Try.prog 6 #[v0, v1] W fun e w' => e = .returned (.bool true) ∧ Below W.heap.size W w' := by
  obtain ⟨z, rfl, _⟩ := open_int (k := .i64) Try.underlying3 k0 h0
  obtain ⟨y, rfl, _⟩ := open_int (k := .i64) Try.underlying3 k1 h1
  exact beat_round_any z y W

end

end Go.Proofs.Ytogianigkpldcaa
