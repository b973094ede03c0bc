/- Package beat: the walks of others, Silent, Check. -/
import Derived.Test.YtogianigkpldcaaBeatB
namespace Go.Proofs.Ytogianigkpldcaa
set_option linter.unusedVariables false
set_option linter.unusedSimpArgs false
open Go.RowKit

theorem oth_yes {me : Int} {g : Nat → Bool} {m : Nat} (h1 : 1 ≤ m) (h2 : (m : Int) ≠ me) (h3 : g m = true) : oth me g (m + 1) = oth me g m ++ [(m : Int)] := by
  rw [oth_succ, if_pos ⟨h1, h2, h3⟩]
theorem oth_no {me : Int} {g : Nat → Bool} {m : Nat} (h : ¬ (1 ≤ m ∧ (m : Int) ≠ me ∧ g m = true)) : oth me g (m + 1) = oth me g m := by
  rw [oth_succ, if_neg h, List.append_nil]

set_option maxRecDepth 100000 in
set_option maxHeartbeats 4000000 in
theorem others_quiet (p q n : Nat) (me now : Int) (f : Nat → Pr) (w : World) (hW : WT w p q n me now f) :
    Calls Try.prog 28 #[.pointer (some ⟨p, 0, none⟩), .func (.func 30) #[.pointer (some ⟨p, 0, none⟩)] #[]] w fun e w' =>
      ∃ v, e = .returned v ∧ w'.ownsRow w.heap.size 3 1 v (oth me (quietB f) (n + 1)).length (ints (oth me (quietB f) (n + 1))) ∧ Chg [] w w' := by
  have c2 : w.cell? ⟨p, 2, none⟩ = some (.slice (some ⟨q, 0, none⟩) (n + 1) (n + 1)) := cell_of_has hW.hp 2
  have hn := hW.ok.hn
  have HW := Lib.hid hW
  clear hW
  go_enter Try.func28, Try.ntmps28
  go_wp2_with fail
  go_loopw [5, 12] (fun v' i wr => ∃ k : Nat, k ≤ n + 1 ∧ i = .int .i64 k ∧ wr.ownsRow w.heap.size 3 1 v' (oth me (quietB f) k).length (ints (oth me (quietB f) k)) ∧ Chg [] w wr) (fun _ i _ => n + 1 - (intOf i).toNat)
  case atStart => exact ⟨0, by omega, rfl, by rw [oth_zero]; exact World.ownsRow_nil _ _ _ _, Chg.refl _ _⟩
  case round =>
    obtain ⟨k, hk, rfl, hown, hC⟩ := hrel
    have hWr := HW.out.chg0 hC
    by_cases hlt : k < n + 1
    · have hkn : k ≤ n := by omega
      have c0 : wr.cell? ⟨p, 0, none⟩ = some (.int .i64 me) := cell_of_has hWr.hp 0
      have hol := oth_len me (quietB f) k
      have HWR := Lib.hid hWr; have HC := Lib.hid hC
      clear hWr hC
      by_cases h1 : 1 ≤ k
      · have hb : (decide (1 ≤ (k : Int)) && decide ((k : Int) < n + 1)) = true := by simp; omega
        by_cases h2 : (k : Int) = me
        · have t2 : ((k : Int) != me) = false := by simp [h2]
          have HO := Lib.hid (oth_no (me := me) (g := quietB f) (m := k) (fun h => h.2.1 h2))
          have HM := Lib.hid h2
          clear h2
          go_wp2_with (go_at_call 29; refine (beat_has p q n me now f k _ HWR.out).mono ?_; rw [hb]; rintro e w1 ⟨rfl, rfl⟩)
          refine ⟨⟨k+1, by omega, by go_num, ?_, HC.out⟩, by simp [intOf]; omega⟩
          rw [HO.out]; exact hown
        · have t2 : ((k : Int) != me) = true := by simp [h2]
          have HM := Lib.hid h2
          cases hq : quietB f k
          · have HO := Lib.hid (oth_no (me := me) (g := quietB f) (m := k) (fun h => by rw [hq] at h; exact absurd h.2.2 (by decide)))
            clear h2
            go_wp2_with (first
              | (go_at_call 29; refine (beat_has p q n me now f k _ HWR.out).mono ?_; rw [hb]; rintro e w1 ⟨rfl, rfl⟩)
              | (go_at_call 30; refine (beat_quiet p q n me now f k _ HWR.out hkn).mono ?_; rw [hq]; rintro e w1 ⟨rfl, rfl⟩))
            refine ⟨⟨k+1, by omega, by go_num, ?_, HC.out⟩, by simp [intOf]; omega⟩
            rw [HO.out]; exact hown
          · have HO := Lib.hid (oth_yes (me := me) (g := quietB f) (m := k) h1 h2 hq)
            clear h2
            have hsz := HC.out.size
            go_wp2_with (first
              | (go_at_call 29; refine (beat_has p q n me now f k _ HWR.out).mono ?_; rw [hb]; rintro e w1 ⟨rfl, rfl⟩)
              | (go_at_call 30; refine (beat_quiet p q n me now f k _ HWR.out hkn).mono ?_; rw [hq]; rintro e w1 ⟨rfl, rfl⟩)
              | (at_builtin; go_loud (refine wpList_push rfl (.tmp 31) (.tmp 33) 30 rfl elem_intS w.heap.size rfl (hown.alloc _) wr.heap.size #[.int .i64 k] rfl rfl (has_alloc_at (by first | rfl | (simp; done))) (by simp [Value.oneCell']) (by omega) (by omega) (by simp; omega) ?_); intro v3 w6 hown6 hgrow6 hat6))
            refine ⟨⟨k+1, by omega, by go_num, ?_, ?_⟩, by simp [intOf]; omega⟩
            · rw [HO.out]; simpa [ints] using hown6
            · refine (HC.out.alloc _).grown hgrow6 ?_
              intro b3 hb3
              exact Or.inr (hown.lt b3 hb3).1
      · have hb : (decide (1 ≤ (k : Int)) && decide ((k : Int) < n + 1)) = false := by simp; omega
        have HO := Lib.hid (oth_no (me := me) (g := quietB f) (m := k) (fun h => h1 h.1))
        go_wp2_with (go_at_call 29; refine (beat_has p q n me now f k _ HWR.out).mono ?_; rw [hb]; rintro e w1 ⟨rfl, rfl⟩)
        refine ⟨⟨k+1, by omega, by go_num, ?_, HC.out⟩, by simp [intOf]; omega⟩
        rw [HO.out]; exact hown
    · obtain rfl : n + 1 = k := by omega
      go_wp2_with fail
      go_ret
      exact ⟨_, rfl, hown, hC⟩

set_option maxRecDepth 100000 in
set_option maxHeartbeats 4000000 in
theorem others_late (p q n : Nat) (me now : Int) (f : Nat → Pr) (w : World) (hW : WT w p q n me now f) :
    Calls Try.prog 28 #[.pointer (some ⟨p, 0, none⟩), .func (.func 27) #[.pointer (some ⟨p, 0, none⟩)] #[]] w fun e w' =>
      ∃ v, e = .returned v ∧ w'.ownsRow w.heap.size 3 1 v (oth me (lateB now f) (n + 1)).length (ints (oth me (lateB now f) (n + 1))) ∧ Chg [] w w' := by
  have c2 : w.cell? ⟨p, 2, none⟩ = some (.slice (some ⟨q, 0, none⟩) (n + 1) (n + 1)) := cell_of_has hW.hp 2
  have hn := hW.ok.hn
  have HW := Lib.hid hW
  clear hW
  go_enter Try.func28, Try.ntmps28
  go_wp2_with fail
  go_loopw [5, 12] (fun v' i wr => ∃ k : Nat, k ≤ n + 1 ∧ i = .int .i64 k ∧ wr.ownsRow w.heap.size 3 1 v' (oth me (lateB now f) k).length (ints (oth me (lateB now f) k)) ∧ Chg [] w wr) (fun _ i _ => n + 1 - (intOf i).toNat)
  case atStart => exact ⟨0, by omega, rfl, by rw [oth_zero]; exact World.ownsRow_nil _ _ _ _, Chg.refl _ _⟩
  case round =>
    obtain ⟨k, hk, rfl, hown, hC⟩ := hrel
    have hWr := HW.out.chg0 hC
    by_cases hlt : k < n + 1
    · have hkn : k ≤ n := by omega
      have c0 : wr.cell? ⟨p, 0, none⟩ = some (.int .i64 me) := cell_of_has hWr.hp 0
      have hol := oth_len me (lateB now f) k
      have HWR := Lib.hid hWr; have HC := Lib.hid hC
      clear hWr hC
      by_cases h1 : 1 ≤ k
      · have hb : (decide (1 ≤ (k : Int)) && decide ((k : Int) < n + 1)) = true := by simp; omega
        by_cases h2 : (k : Int) = me
        · have t2 : ((k : Int) != me) = false := by simp [h2]
          have HO := Lib.hid (oth_no (me := me) (g := lateB now f) (m := k) (fun h => h.2.1 h2))
          have HM := Lib.hid h2
          clear h2
          go_wp2_with (go_at_call 29; refine (beat_has p q n me now f k _ HWR.out).mono ?_; rw [hb]; rintro e w1 ⟨rfl, rfl⟩)
          refine ⟨⟨k+1, by omega, by go_num, ?_, HC.out⟩, by simp [intOf]; omega⟩
          rw [HO.out]; exact hown
        · have t2 : ((k : Int) != me) = true := by simp [h2]
          have HM := Lib.hid h2
          cases hq : lateB now f k
          · have HO := Lib.hid (oth_no (me := me) (g := lateB now f) (m := k) (fun h => by rw [hq] at h; exact absurd h.2.2 (by decide)))
            clear h2
            go_wp2_with (first
              | (go_at_call 29; refine (beat_has p q n me now f k _ HWR.out).mono ?_; rw [hb]; rintro e w1 ⟨rfl, rfl⟩)
              | (go_at_call 27; refine (beat_late p q n me now f k _ HWR.out hkn).mono ?_; rw [hq]; rintro e w1 ⟨rfl, hC1⟩; have HC1 := Lib.hid hC1; clear hC1))
            refine ⟨⟨k+1, by omega, by go_num, ?_, HC.out.trans HC1.out⟩, by simp [intOf]; omega⟩
            rw [HO.out]; exact own_chg hown HC1.out (by simp)
          · have HO := Lib.hid (oth_yes (me := me) (g := lateB now f) (m := k) h1 h2 hq)
            clear h2
            have hsz := HC.out.size
            go_wp2_with (first
              | (go_at_call 29; refine (beat_has p q n me now f k _ HWR.out).mono ?_; rw [hb]; rintro e w1 ⟨rfl, rfl⟩)
              | (go_at_call 27; refine (beat_late p q n me now f k _ HWR.out hkn).mono ?_; rw [hq]; rintro e w1 ⟨rfl, hC1⟩; have HC1 := Lib.hid hC1; have hsz1 := hC1.size; clear hC1)
              | (at_builtin; go_loud (refine wpList_push rfl (.tmp 31) (.tmp 33) 30 rfl elem_intS w.heap.size rfl ((own_chg hown HC1.out (by simp)).alloc _) w1.heap.size #[.int .i64 k] rfl rfl (has_alloc_at (by first | rfl | (simp; done))) (by simp [Value.oneCell']) (by omega) (by omega) (by simp; omega) ?_); intro v3 w6 hown6 hgrow6 hat6))
            refine ⟨⟨k+1, by omega, by go_num, ?_, ?_⟩, by simp [intOf]; omega⟩
            · rw [HO.out]; simpa [ints] using hown6
            · refine ((HC.out.trans HC1.out).alloc _).grown hgrow6 ?_
              intro b3 hb3
              exact Or.inr (hown.lt b3 hb3).1
      · have hb : (decide (1 ≤ (k : Int)) && decide ((k : Int) < n + 1)) = false := by simp; omega
        have HO := Lib.hid (oth_no (me := me) (g := lateB now f) (m := k) (fun h => h1 h.1))
        go_wp2_with (go_at_call 29; refine (beat_has p q n me now f k _ HWR.out).mono ?_; rw [hb]; rintro e w1 ⟨rfl, rfl⟩)
        refine ⟨⟨k+1, by omega, by go_num, ?_, HC.out⟩, by simp [intOf]; omega⟩
        rw [HO.out]; exact hown
    · obtain rfl : n + 1 = k := by omega
      go_wp2_with fail
      go_ret
      exact ⟨_, rfl, hown, hC⟩


theorem silent_nil (w : World) : Calls Try.prog 13 #[.pointer none] w fun e w' => e = .returned (.slice none 0 0) ∧ w = w' := by
  go_enter Try.func13, Try.ntmps13
  go_wp2_with fail
  go_ret
  exact ⟨rfl, rfl⟩

theorem beat_silent (p q n : Nat) (me now : Int) (f : Nat → Pr) (w : World) (hW : WT w p q n me now f) :
    Calls Try.prog 13 #[.pointer (some ⟨p, 0, none⟩)] w fun e w' =>
      ∃ v, e = .returned v ∧ w'.ownsRow w.heap.size 3 1 v (oth me (quietB f) (n + 1)).length (ints (oth me (quietB f) (n + 1))) ∧ Chg [] w w' := by
  have hmf : ∀ (fn : Fn) (first cap : Array Value) (w : World), (Instr.makeFunc fn first cap).run Try.prog w = .ok (.func fn first cap) w := fun _ _ _ _ => rfl
  have HW := Lib.hid hW
  clear hW
  go_enter Try.func13, Try.ntmps13
  go_wp2_with fail
  refine (others_quiet p q n me now f _ HW.out).mono ?_
  rintro e w1 ⟨v, rfl, hown, hC⟩
  have HO := Lib.hid hown; have HC := Lib.hid hC
  clear hown hC
  go_wp2_with fail
  go_ret
  exact ⟨v, rfl, HO.out, HC.out⟩

theorem now_nil (w : World) : Calls Try.prog 20 #[.pointer none] w fun e w' => e = .returned (.int .i64 0) ∧ w = w' := by
  go_enter Try.func20, Try.ntmps20
  go_wp2_with fail
  go_ret
  exact ⟨rfl, rfl⟩

theorem beat_now (p q n : Nat) (me now : Int) (f : Nat → Pr) (w : World) (hW : WT w p q n me now f) :
    Calls Try.prog 20 #[.pointer (some ⟨p, 0, none⟩)] w fun e w' => e = .returned (.int .i64 now) ∧ w = w' := by
  have c1 : w.cell? ⟨p, 1, none⟩ = some (.int .i64 now) := cell_of_has hW.hp 1
  clear hW
  go_enter Try.func20, Try.ntmps20
  go_wp2_with fail
  go_ret
  exact ⟨rfl, rfl⟩

theorem timeout_nil (x : Int) (w : World) : Calls Try.prog 14 #[.pointer none, .int .i64 x] w fun e w' => e = .returned (.tuple #[.int .i64 0, .int .i64 1]) ∧ w = w' := by
  go_enter Try.func14, Try.ntmps14
  go_wp2_with fail
  refine (beat_has_nil x _).mono ?_
  rintro e w1 ⟨rfl, rfl⟩
  go_wp2_with fail
  exact bodyPost_ret (v := .tuple #[.int .i64 0, .int .i64 1]) (by simp [results, Try.results14, go_sem]) rfl ⟨rfl, rfl⟩

/-- What Timeout tells. -/
def toOf (n : Nat) (me : Int) (f : Nat → Pr) (x : Int) : Int := if 1 ≤ x ∧ x ≤ n ∧ x ≠ me then (f x.toNat).timeout else 0
def toErr (n : Nat) (x : Int) : Int := if 1 ≤ x ∧ x ≤ n then 0 else 1

set_option maxHeartbeats 1000000 in
theorem beat_timeout (p q n : Nat) (me now : Int) (f : Nat → Pr) (x : Int) (w : World) (hW : WT w p q n me now f) :
    Calls Try.prog 14 #[.pointer (some ⟨p, 0, none⟩), .int .i64 x] w fun e w' => e = .returned (.tuple #[.int .i64 (toOf n me f x), .int .i64 (toErr n x)]) ∧ w = w' := by
  have c0 : w.cell? ⟨p, 0, none⟩ = some (.int .i64 me) := cell_of_has hW.hp 0
  have c2 : w.cell? ⟨p, 2, none⟩ = some (.slice (some ⟨q, 0, none⟩) (n + 1) (n + 1)) := cell_of_has hW.hp 2
  have hn := hW.ok.hn
  have HW := Lib.hid hW
  clear hW
  by_cases hx : 1 ≤ x ∧ x ≤ n
  · obtain ⟨k, rfl⟩ : ∃ k : Nat, x = k := ⟨x.toNat, by omega⟩
    have hkn : k ≤ n := by omega
    have hb : (decide (1 ≤ (k : Int)) && decide ((k : Int) < n + 1)) = true := by simp; omega
    have d1 := HW.out.hq.c1 hkn
    have he : toErr n k = 0 := by unfold toErr; rw [if_pos hx]
    rw [he]
    by_cases hm : (k : Int) = me
    · have t : ((k : Int) == me) = true := by simp [hm]
      have ht : toOf n me f k = 0 := by unfold toOf; rw [if_neg (fun h => h.2.2 hm)]
      rw [ht]
      clear hm ht he
      go_enter Try.func14, Try.ntmps14
      go_wp2_with fail
      refine (beat_has p q n me now f k _ HW.out).mono ?_
      rw [hb]
      rintro e w1 ⟨rfl, rfl⟩
      go_wp2_with fail
      exact bodyPost_ret (v := .tuple #[.int .i64 0, .int .i64 0]) (by simp [results, Try.results14, go_sem]) rfl ⟨rfl, rfl⟩
    · have t : ((k : Int) == me) = false := by simp [hm]
      have ht : toOf n me f k = (f k).timeout := by unfold toOf; rw [if_pos ⟨hx.1, hx.2, hm⟩]; simp
      rw [ht]
      clear hm ht he
      generalize (f k).timeout = z at *
      go_enter Try.func14, Try.ntmps14
      go_wp2_with fail
      refine (beat_has p q n me now f k _ HW.out).mono ?_
      rw [hb]
      rintro e w1 ⟨rfl, rfl⟩
      go_wp2_with fail
      exact bodyPost_ret (v := .tuple #[.int .i64 z, .int .i64 0]) (by simp [results, Try.results14, go_sem]) rfl ⟨rfl, rfl⟩
  · have hb : (decide (1 ≤ x) && decide (x < n + 1)) = false := by simp; omega
    have he : toErr n x = 1 := by unfold toErr; rw [if_neg hx]
    have ht : toOf n me f x = 0 := by unfold toOf; rw [if_neg (fun h => hx ⟨h.1, h.2.1⟩)]
    rw [he, ht]
    clear he ht hx
    go_enter Try.func14, Try.ntmps14
    go_wp2_with fail
    refine (beat_has p q n me now f x _ HW.out).mono ?_
    rw [hb]
    rintro e w1 ⟨rfl, rfl⟩
    go_wp2_with fail
    exact bodyPost_ret (v := .tuple #[.int .i64 0, .int .i64 1]) (by simp [results, Try.results14, go_sem]) rfl ⟨rfl, rfl⟩

end Go.Proofs.Ytogianigkpldcaa
