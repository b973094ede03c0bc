/- The walks of slices.Index, Contains at []int and of wardmoteplain.Ints. -/
import Derived.Test.YtogianigkpldcaaBase
namespace Go.Proofs.Ytogianigkpldcaa
set_option linter.unusedVariables false
set_option linter.unusedSimpArgs false
open Go.RowKit

/-- Where a number stands first in a list; -1: nowhere. -/
def idxOf (zs : List Int) (x : Int) : Int := match zs.findIdx? (· == x) with | some i => i | none => -1

theorem idxOf_bd (zs : List Int) (x : Int) : -1 ≤ idxOf zs x ∧ idxOf zs x < zs.length := by
  unfold idxOf
  cases h : zs.findIdx? (· == x) with
  | none => simp; omega
  | some i =>
    have := (List.findIdx?_eq_some_iff_getElem.1 h).1
    simp; omega

theorem idxOf_at {zs : List Int} {x : Int} {k : Nat} (hk : k < zs.length) (hx : zs.getD k 0 = x) (hn : ∀ j, j < k → zs.getD j 0 ≠ x) : idxOf zs x = k := by
  unfold idxOf
  have : zs.findIdx? (· == x) = some k := by
    rw [List.findIdx?_eq_some_iff_getElem]
    refine ⟨hk, by simpa [List.getD, hk] using hx, ?_⟩
    intro j hj
    have := hn j hj
    have hj' : j < zs.length := by omega
    simpa [List.getD, hj'] using this
  rw [this]

theorem idxOf_none {zs : List Int} {x : Int} (hn : ∀ j, j < zs.length → zs.getD j 0 ≠ x) : idxOf zs x = -1 := by
  unfold idxOf
  have : zs.findIdx? (· == x) = none := by
    rw [List.findIdx?_eq_none_iff]
    intro y hy
    obtain ⟨j, hj, rfl⟩ := List.getElem_of_mem hy
    have := hn j hj
    simpa [List.getD, hj] using this
  rw [this]

theorem idxOf_mem (zs : List Int) (x : Int) : 0 ≤ idxOf zs x ↔ x ∈ zs := by
  unfold idxOf
  cases h : zs.findIdx? (· == x) with
  | none =>
    rw [List.findIdx?_eq_none_iff] at h
    simp
    intro hm
    have := h x hm
    simp at this
  | some i =>
    obtain ⟨hi, h1, _⟩ := List.findIdx?_eq_some_iff_getElem.1 h
    simp at h1
    simp
    rw [← h1]
    exact List.getElem_mem hi

set_option maxHeartbeats 1000000 in
theorem sl_index (a : Option Addr) (len cap : Nat) (zs : List Int) (x : Int) (w : World) (hl : zs.length = len) (hm : len ≤ 9223372036854775807) (hc : ReadsI w a zs) :
    Calls Try.prog 36 #[.slice a len cap, .int .i64 x] w fun e w' => e = .returned (.int .i64 (idxOf zs x)) ∧ w' = w := by
  subst hl
  go_enter Try.func36, Try.ntmps36
  go_wp2_with fail
  go_loop [8] (fun i => ∃ k : Nat, k ≤ zs.length ∧ i = .int .i64 k ∧ (∀ j, j < k → zs.getD j 0 ≠ x)) (fun i => zs.length - (intOf i).toNat)
  case atStart => exact ⟨0, Nat.zero_le _, rfl, by simp⟩
  case round =>
    obtain ⟨k, hk, rfl, hn⟩ := hrel
    have HN := Lib.hid hn; clear hn
    by_cases hlt : k < zs.length
    · obtain ⟨b, off, rfl, hb, hcell0⟩ := hc (by omega)
      have hcell := hcell0 k hlt
      clear hc hcell0
      by_cases hz : zs.getD k 0 = x
      · have hi := idxOf_at hlt hz HN.out
        rw [hz] at hcell
        have HI := Lib.hid hi
        clear hi hz
        go_wp2
        go_ret
        refine ⟨?_, rfl⟩
        rw [HI.out]; rfl
      · have HZ := Lib.hid hz
        generalize hzz : zs.getD k 0 = z at *
        have HZZ := Lib.hid hzz; clear hzz
        have e : (x == z) = false := by simpa using fun h => hz h.symm
        have e2 : ¬ x = z := fun h => hz h.symm
        clear hz
        go_wp2
        refine ⟨⟨k+1, by omega, by go_num, ?_⟩, by simp [intOf]; omega⟩
        intro j hj
        by_cases e3 : j = k
        · subst e3; rw [HZZ.out]; exact HZ.out
        · exact HN.out j (by omega)
    · have hi := idxOf_none (zs := zs) (x := x) (fun j hj => HN.out j (by omega))
      have HI := Lib.hid hi
      clear hi
      go_wp2
      go_ret
      refine ⟨?_, rfl⟩
      rw [HI.out]; rfl


set_option maxHeartbeats 400000 in
theorem sl_contains (a : Option Addr) (len cap : Nat) (zs : List Int) (x : Int) (w : World) (hl : zs.length = len) (hm : len ≤ 9223372036854775807) (hc : ReadsI w a zs) :
    Calls Try.prog 33 #[.slice a len cap, .int .i64 x] w fun e w' => e = .returned (.bool (decide (0 ≤ idxOf zs x))) ∧ w' = w := by
  go_enter Try.func33, Try.ntmps33
  go_wp2_with fail
  refine (sl_index a len cap zs x w hl hm hc).mono ?_
  rintro e w' ⟨rfl, rfl⟩
  go_wp2
  go_ret
  exact ⟨rfl, rfl⟩

theorem elem_intS : ElemOK Try.prog 30 3 (.int .i64 0) 1 8 := ⟨Try.underlying30, by kernel_rfl, rfl, by decide⟩

theorem lists_ne {zs ys : List Int} {k : Nat} (h1 : k < zs.length) (h2 : ¬ k < ys.length ∨ zs.getD k 0 ≠ ys.getD k 0) : decide (zs = ys) = false := by
  simp only [decide_eq_false_iff_not]
  rintro rfl
  rcases h2 with h | h
  · exact h h1
  · exact h rfl

theorem lists_eq {zs ys : List Int} (h : ∀ j, j < zs.length → j < ys.length ∧ zs.getD j 0 = ys.getD j 0) : decide (zs = ys) = decide (zs.length = ys.length) := by
  by_cases e : zs.length = ys.length
  · have : zs = ys := by
      apply List.ext_getElem e
      intro i h1 h2
      have := (h i h1).2
      simpa [List.getD, h1, h2] using this
    simp [this]
  · have : ¬ zs = ys := fun h => e (by rw [h])
    simp [e, this]

set_option maxHeartbeats 1000000 in
theorem plain_ints (a b : Option Addr) (la ca lb cb : Nat) (zs ys : List Int) (w : World) (hla : zs.length = la) (hlb : ys.length = lb) (hma : la ≤ 9223372036854775807) (hmb : lb ≤ 9223372036854775807) (hza : ReadsI w a zs) (hyb : ReadsI w b ys) :
    Calls Try.prog 18 #[.slice a la ca, .slice b lb cb] w fun e w' => e = .returned (.bool (decide (zs = ys))) ∧ ∃ k, w' = w.drewN k := by
  subst hla; subst hlb
  go_enter Try.func18, Try.ntmps18
  go_wp2_with fail
  go_loopw [8] (fun i wr => ∃ k : Nat, k ≤ zs.length ∧ i = .int .i64 k ∧ (∀ j, j < k → j < ys.length ∧ zs.getD j 0 = ys.getD j 0) ∧ ∃ n, wr = w.drewN n) (fun i _ => zs.length - (intOf i).toNat)
  case atStart => exact ⟨0, Nat.zero_le _, rfl, by simp, 0, rfl⟩
  case round =>
    obtain ⟨k, hk, rfl, hn, n, rfl⟩ := hrel
    have HN := Lib.hid hn; clear hn
    by_cases hlt : k < zs.length
    · obtain ⟨ba, oa, rfl, hba, hca⟩ := hza (by omega)
      have c0 := hca k hlt
      by_cases hlb : k < ys.length
      · obtain ⟨bb, ob, rfl, hbb, hcb⟩ := hyb (by omega)
        have c1 := hcb k hlb
        have HL := fun hh => Lib.hid (lists_ne (zs := zs) (ys := ys) (k := k) hlt (Or.inr hh))
        generalize hz : zs.getD k 0 = z at *
        generalize hy : ys.getD k 0 = y at *
        have HZ := Lib.hid hz; have HY := Lib.hid hy
        clear hca hcb hza hyb hz hy
        by_cases hzy : z = y
        · have t : (z != y) = false := by simp [hzy]
          have HE := Lib.hid hzy
          clear hzy HL
          go_wp2_with fail
          go_quiet (fail)
          go_wp2_with fail
          refine ⟨⟨k+1, by omega, by go_num, ?_, _, by first | rfl | exact World.drewN_drewN _ _ _⟩, by simp [intOf]; omega⟩
          intro j hj
          by_cases e3 : j = k
          · subst e3; rw [HZ.out, HY.out]; exact ⟨hlb, HE.out⟩
          · exact HN.out j (by omega)
        · have t : (z != y) = true := by simp [hzy]
          have HE := HL hzy
          clear hzy HL
          go_wp2_with fail
          go_quiet (fail)
          go_wp2_with fail
          go_ret
          exact ⟨by rw [HE.out]; rfl, _, by first | rfl | exact World.drewN_drewN _ _ _⟩
      · have HE := Lib.hid (lists_ne (zs := zs) (ys := ys) (k := k) hlt (Or.inl hlb))
        clear hca hza hyb
        go_wp2_with fail
        go_quiet (fail)
        go_wp2_with fail
        go_ret
        exact ⟨by rw [HE.out]; rfl, _, by first | rfl | exact World.drewN_drewN _ _ _⟩
    · obtain rfl : zs.length = k := by omega
      have HE := Lib.hid (lists_eq HN.out)
      by_cases e : zs.length = ys.length
      · have t : ((zs.length : Int) == (ys.length : Int)) = true := by simp [e]
        have HF := Lib.hid (show decide (zs.length = ys.length) = true by simp [e])
        clear e
        go_wp2_with fail
        go_ret
        exact ⟨by rw [HE.out, HF.out]; rfl, _, rfl⟩
      · have t : ((zs.length : Int) == (ys.length : Int)) = false := by simp; omega
        have HF := Lib.hid (show decide (zs.length = ys.length) = false by simp [e])
        clear e
        go_wp2_with fail
        go_ret
        exact ⟨by rw [HE.out, HF.out]; rfl, _, rfl⟩

end Go.Proofs.Ytogianigkpldcaa
