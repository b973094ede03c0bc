/- Package beat: the walks of slices.Repeat and New. -/
import Derived.Test.YtogianigkpldcaaBeatD
import Derived.Test.YtogianigkpldcaaBits
import Derived.Test.YtogianigkpldcaaCopy
namespace Go.Proofs.Ytogianigkpldcaa
set_option linter.unusedVariables false
set_option linter.unusedSimpArgs false
open Go.RowKit

set_option maxRecDepth 100000 in
theorem bits_mul (x y : Nat) (hx : x < 18446744073709551616) (hy : y < 18446744073709551616) (w : World) :
    Calls Try.prog 34 #[.int .u64 x, .int .u64 y] w fun e w' => e = .returned (.tuple #[.int .u64 ((x * y / 18446744073709551616 : Nat) : Int), .int .u64 ((x * y % 18446744073709551616 : Nat) : Int)]) ∧ w = w' := by
  go_enter Try.func34, Try.ntmps34
  go_wp2_with fail
  refine (bits_mul64 x y hx hy _).mono ?_
  rintro e w1 ⟨rfl, rfl⟩
  go_wp2_with fail
  go_ret2
  exact ⟨rfl, rfl⟩

theorem elem_peer : ElemOK Try.prog 62 65 (.agg #[.int .i64 0, .int .i64 0, .bool false]) 3 24 := ⟨Try.underlying62, by kernel_rfl, rfl, by decide⟩

def prCells (p : Pr) : List Value := [.int .i64 p.heard, .int .i64 p.timeout, .bool p.silent]

set_option maxRecDepth 100000 in
set_option maxHeartbeats 2000000 in
theorem sl_repeat (g N : Nat) (p : Pr) (w : World) (hg : w.heap[g]? = some (.cells (prCells p).toArray 65 (0, 0))) (h1 : 2 ≤ N) (h2 : N ≤ 11) :
    Calls Try.prog 26 #[.slice (some ⟨g, 0, none⟩) 1 1, .int .i64 N] w fun e w' =>
      e = .returned (.slice (some ⟨w.heap.size, 0, none⟩) N N) ∧ w'.heap[w.heap.size]? = some (.cells (rep (prCells p) N).toArray 65 (0, 0)) ∧ Chg [] w w' := by
  obtain ⟨i, hi, hz0, hz1, hz2⟩ := info_parts elem_peer.hi
  have hgl := lt_of_has hg
  have hmk := run_makeSlice (P := Try.prog) (w := w) 62 65 i _ Try.underlying62 hi hz0 .i64 .i64 N N (by omega) (by omega) (by rw [hz1]; omega) (by rw [hz2]; omega) (by omega)
  rw [hz1] at hmk
  simp only [Int.toNat_natCast] at hmk
  have hsz : (madeCells (Value.agg #[.int .i64 0, .int .i64 0, .bool false]).cells (N * 3)).size = N * 3 := size_madeCells _ _
  generalize madeCells (Value.agg #[.int .i64 0, .int .i64 0, .bool false]).cells (N * 3) = mc at *
  have e1 : N * 1 / 18446744073709551616 = 0 := by omega
  have HG := Lib.hid hg; have HS := Lib.hid hsz
  have hpl : (prCells p).length = 3 := rfl
  have HPL := Lib.hid hpl
  clear hg hsz hi hz0 hz1 hz2 hpl
  obtain ⟨W0, hW0⟩ : ∃ W0, w.alloc (.cells mc 65) = W0 := ⟨_, rfl⟩
  have q0 : W0.heap[w.heap.size]? = some (.cells mc 65 (0, 0)) := by rw [← hW0]; exact has_alloc_new _ _
  have q1 : W0.heap[g]? = some (.cells (prCells p).toArray 65 (0, 0)) := by rw [← hW0]; exact has_alloc HG.out
  have hC0 : Chg [] w W0 := by rw [← hW0]; exact (Chg.refl _ _).alloc _
  rw [hW0] at hmk
  have one : ∀ (m : Nat) (v : Value), v ∈ rep (prCells p) m → v.oneCell' = true := fun m v hv => by
    have := rep_mem hv
    simp [prCells] at this
    rcases this with rfl | rfl | rfl <;> simp [Value.oneCell']
  have src : ∀ j v, (rep (prCells p) 1)[j]? = some v → W0.cell? ((⟨g, 0, none⟩ : Addr).add j) = some v := fun j v hv => by
    rw [addr_add0, cell_of_has q1]; simpa [rep] using hv
  have hz0 : W0.heap.size = w.heap.size + 1 := by rw [← hW0]; simp
  have HC0 := Lib.hid hC0; have Q0 := Lib.hid q0
  clear hC0 hW0 q1
  have hcp := run_copy_row_n (P := Try.prog) W0 62 62 3 65 3 w.heap.size 0 N N ⟨g, 0, none⟩ 1 1 1 mc 65 (rep (prCells p) 1) Try.underlying62 (by kernel_rfl) Q0.out (Nat.min_eq_left (by omega)).symm rfl src (by rw [rep_len, HPL.out, HS.out]; omega) (one 1)
  obtain ⟨L0, hL0⟩ : ∃ L0, mc.toList.take 0 ++ rep (prCells p) 1 ++ mc.toList.drop (0 + (rep (prCells p) 1).length) = L0 := ⟨_, rfl⟩
  rw [hL0] at hcp
  obtain ⟨W1, hW1⟩ : ∃ W1, W0.setRow w.heap.size L0.toArray = W1 := ⟨_, rfl⟩
  rw [hW1] at hcp
  have hq1 : W1.heap[w.heap.size]? = some (.cells L0.toArray 65 (0, 0)) := by rw [← hW1]; exact setRow_has Q0.out _
  have hC1 : Chg [] w W1 := by rw [← hW1]; exact HC0.out.setRow (Or.inr (Nat.le_refl _)) _
  have hl0 : L0.length = N * 3 ∧ L0.take (1 * 3) = rep (prCells p) 1 := by
    rw [← hL0]
    refine ⟨?_, ?_⟩
    · simp only [List.take_zero, List.nil_append, List.length_append, List.length_drop, rep_len, HPL.out, Array.length_toList, HS.out]; omega
    · rw [List.take_zero, List.nil_append, List.take_append_of_le_length (by rw [rep_len, HPL.out]; exact Nat.le_refl _), List.take_of_length_le (by rw [rep_len, HPL.out]; exact Nat.le_refl _)]
  have HQ1 := Lib.hid hq1; have HC1 := Lib.hid hC1; have HL0 := Lib.hid hl0
  clear hq1 hC1 hl0 hL0 hW1 src hgl
  go_enter Try.func26, Try.ntmps26
  go_wp2_with (go_at_call 34; refine (bits_mul 1 N (by omega) (by omega) _).mono ?_; rw [show 1 * N / 18446744073709551616 = 0 by omega, show 1 * N % 18446744073709551616 = N by omega]; rintro e w1 ⟨rfl, rfl⟩)
  go_loopw [8] (fun i wr => ∃ (k : Nat) (L : List Value), 1 ≤ k ∧ k ≤ N ∧ i = .int .i64 k ∧ wr.heap[w.heap.size]? = some (.cells L.toArray 65 (0, 0)) ∧ (L.length = N * 3 ∧ L.take (k * 3) = rep (prCells p) k) ∧ Chg [] w wr) (fun i _ => N - (intOf i).toNat)
  case atStart => exact ⟨1, L0, by omega, by omega, rfl, HQ1.out, HL0.out, HC1.out⟩
  case round =>
    obtain ⟨k, L, hk1, hk, rfl, hqr, hL, hC⟩ := hrel
    have HQ := Lib.hid hqr; have HC := Lib.hid hC; have HL := Lib.hid hL
    clear hqr hC hL
    by_cases hlt : k < N
    · obtain ⟨m, hm⟩ : ∃ m, m = Nat.min k (N - k) := ⟨_, rfl⟩
      have hm1 : 1 ≤ m ∧ m ≤ k ∧ k + m ≤ N := by rw [hm]; simp only [Nat.min_def]; split <;> omega
      obtain ⟨hma, hmb, hmc⟩ := hm1
      have hsrc : ∀ j v, (rep (prCells p) m)[j]? = some v → wr.cell? ((⟨w.heap.size, 0, none⟩ : Addr).add j) = some v := fun j v hv => by
        rw [addr_add0, cell_of_has HQ.out]
        have hr := rep_take (prCells p) (a := m) (b := k) hmb
        rw [← HL.out.2, HPL.out, List.take_take] at hr
        have hj : j < m * 3 := by
          have := (List.getElem?_eq_some_iff.1 hv).1
          rwa [rep_len, HPL.out] at this
        rw [← hr, List.getElem?_take, if_pos (by omega)] at hv
        simpa using hv
      have st := rep_step (x := prCells p) (cs := L) (k := k) (m := m) hmb (by rw [HPL.out]; exact HL.out.2) (by rw [HPL.out, HL.out.1]; omega)
      rw [HPL.out] at st
      obtain ⟨L1, hL1⟩ : ∃ L1, L.take (k * 3) ++ (rep (prCells p) m ++ L.drop (k * 3 + (rep (prCells p) m).length)) = L1 := ⟨_, rfl⟩
      rw [List.append_assoc, hL1] at st
      have HSRC := Lib.hid hsrc; have ST := Lib.hid st; have HL1 := Lib.hid hL1
      have hfit : k * 3 + (rep (prCells p) m).length ≤ L.toArray.size := by rw [rep_len, HPL.out, List.size_toArray, HL.out.1]; omega
      have HM := Lib.hid hm; have HF := Lib.hid hfit
      have hrl : (rep (prCells p) m).length = m * 3 := by rw [rep_len, HPL.out]
      have HRL := Lib.hid hrl
      have HONE := Lib.hid (one m)
      have hw : IntKind.i64.wrap ((k : Int) + m) = k + m := IntWalk.i64_in _ (by omega)
      clear hsrc st hL1 hm hfit hrl one
      go_wp2_with fail
      go_region_law? (refine step_copy_n rfl (.tmp 41) (.tmp 44) 62 62 rfl 65 3 Try.underlying62 (by kernel_rfl) w.heap.size (k * 3) (N - k) (N - k) ⟨w.heap.size, 0, none⟩ k N m (by simp [Act.eval, Act.put]; omega) (by simp [Act.eval, Act.put]) L.toArray 65 HQ.out (rep (prCells p) m) HM.out HRL.out HSRC.out HF.out HONE.out ?_)
      rw [HL1.out]
      go_wp2_with fail
      refine ⟨⟨k + m, by omega, hmc, by go_num, L1, setRow_has (w := wr.drew) (t := 65) (cur := L.toArray) HQ.out _, ?_, ?_⟩, by simp [intOf]; omega⟩
      · exact ⟨by rw [ST.out.2]; exact HL.out.1, ST.out.1⟩
      · exact (HC.out.drew).setRow (Or.inr (Nat.le_refl _)) _
    · obtain rfl : N = k := by omega
      go_wp2_with fail
      go_ret
      refine ⟨rfl, ?_, HC.out⟩
      rw [← HL.out.2, List.take_of_length_le (by rw [HL.out.1]; exact Nat.le_refl _)]
      exact HQ.out

/-- What is known at the beginning. -/
def newF (now : Int) : Nat → Pr := fun _ => ⟨now, 4, false⟩

theorem rep_prs {w : World} {q n : Nat} {t : TypeId} {now : Int} (h : w.heap[q]? = some (.cells (rep (prCells ⟨now, 4, false⟩) (n + 1)).toArray t (0, 0))) : Prs w q n t (newF now) := by
  refine ⟨_, h, fun i hi => ?_⟩
  have h0 := rep_get (prCells ⟨now, 4, false⟩) (k := n + 1) (i := i) (j := 0) (by omega) (by simp [prCells])
  have h1 := rep_get (prCells ⟨now, 4, false⟩) (k := n + 1) (i := i) (j := 1) (by omega) (by simp [prCells])
  have h2 := rep_get (prCells ⟨now, 4, false⟩) (k := n + 1) (i := i) (j := 2) (by omega) (by simp [prCells])
  simp only [List.getElem?_toArray]
  exact ⟨h0, h1, h2⟩

/-- What New takes. -/
def newOK (n me now : Int) : Prop := 1 ≤ n ∧ n ≤ 10 ∧ 1 ≤ me ∧ me ≤ n ∧ 0 ≤ now ∧ now ≤ 1099511627776

theorem new_bad (n me now : Int) (w : World) (hb : ¬ newOK n me now) :
    Calls Try.prog 9 #[.int .i64 n, .int .i64 me, .int .i64 now] w fun e w' => e = .returned (.tuple #[.pointer none, .int .i64 1]) ∧ w = w' := by
  have hb' : ¬ (1 ≤ n ∧ n ≤ 10) ∨ ((1 ≤ n ∧ n ≤ 10) ∧ me < 1) ∨ ((1 ≤ n ∧ n ≤ 10) ∧ 1 ≤ me ∧ n < me) ∨ ((1 ≤ n ∧ n ≤ 10) ∧ 1 ≤ me ∧ me ≤ n ∧ ¬ (0 ≤ now ∧ now ≤ 1099511627776)) := by
    unfold newOK at hb; omega
  clear hb
  rcases hb' with h | ⟨h, h2⟩ | ⟨h, h2, h3⟩ | ⟨h, h2, h3, h4⟩
  · have e1 : (decide (1 ≤ n) && decide (n ≤ 10)) = false := by simp; omega
    go_enter Try.func9, Try.ntmps9
    go_wp2_with (go_at_call 24; refine (beat_panel n _).mono ?_; rw [e1]; rintro e w1 ⟨rfl, rfl⟩)
    exact bodyPost_ret (v := .tuple #[.pointer none, .int .i64 1]) (by simp [results, Try.results9, go_sem]) rfl ⟨rfl, rfl⟩
  · have e1 : (decide (1 ≤ n) && decide (n ≤ 10)) = true := by simp; omega
    go_enter Try.func9, Try.ntmps9
    go_wp2_with (go_at_call 24; refine (beat_panel n _).mono ?_; rw [e1]; rintro e w1 ⟨rfl, rfl⟩)
    exact bodyPost_ret (v := .tuple #[.pointer none, .int .i64 1]) (by simp [results, Try.results9, go_sem]) rfl ⟨rfl, rfl⟩
  · have e1 : (decide (1 ≤ n) && decide (n ≤ 10)) = true := by simp; omega
    go_enter Try.func9, Try.ntmps9
    go_wp2_with (go_at_call 24; refine (beat_panel n _).mono ?_; rw [e1]; rintro e w1 ⟨rfl, rfl⟩)
    exact bodyPost_ret (v := .tuple #[.pointer none, .int .i64 1]) (by simp [results, Try.results9, go_sem]) rfl ⟨rfl, rfl⟩
  · have e1 : (decide (1 ≤ n) && decide (n ≤ 10)) = true := by simp; omega
    have e2 : (decide (0 ≤ now) && decide (now ≤ 1099511627776)) = false := by simp; omega
    go_enter Try.func9, Try.ntmps9
    go_wp2_with (first
      | (go_at_call 24; refine (beat_panel n _).mono ?_; rw [e1]; rintro e w1 ⟨rfl, rfl⟩)
      | (go_at_call 25; refine (beat_moment now 0 _).mono ?_; rw [e2]; rintro e w1 ⟨rfl, rfl⟩))
    exact bodyPost_ret (v := .tuple #[.pointer none, .int .i64 1]) (by simp [results, Try.results9, go_sem]) rfl ⟨rfl, rfl⟩

set_option maxRecDepth 100000 in
set_option maxHeartbeats 1000000 in
theorem new_ok (n : Nat) (me now : Int) (w : World) (hb : newOK n me now) :
    Calls Try.prog 9 #[.int .i64 n, .int .i64 me, .int .i64 now] w fun e w' => ∃ p q, e = .returned (.tuple #[.pointer (some ⟨p, 0, none⟩), .int .i64 0]) ∧ w.heap.size ≤ p ∧ w.heap.size ≤ q ∧ WT w' p q n me now (newF now) ∧ Chg [] w w' := by
  obtain ⟨h1, h2, h3, h4, h5, h6⟩ := hb
  have e1 : (decide (1 ≤ (n : Int)) && decide ((n : Int) ≤ 10)) = true := by simp; omega
  have e2 : (decide (0 ≤ now) && decide (now ≤ 1099511627776)) = true := by simp; omega
  go_enter Try.func9, Try.ntmps9
  go_wp2_with (first
    | (go_at_call 24; refine (beat_panel n _).mono ?_; rw [e1]; rintro e w1 ⟨rfl, rfl⟩)
    | (go_at_call 25; refine (beat_moment now 0 _).mono ?_; rw [e2]; rintro e w1 ⟨rfl, rfl⟩))
  refine (sl_repeat w.heap.size (n + 1) ⟨now, 4, false⟩ _ (has_alloc_new _ _) (by omega) (by omega)).mono ?_
  rintro e w1 ⟨rfl, hq, hC⟩
  have hC1 : Chg [] w w1 := ((Chg.refl [] w).alloc _).trans hC
  have HC1 := Lib.hid hC1
  have hq2 := rep_prs hq
  rw [World.size_alloc] at hq2
  have HP := Lib.hid hq2
  have hs1 := hC.size
  have hs2 : w.heap.size + 1 ≤ w1.heap.size := by simpa using hs1
  clear hq hC hC1 hq2
  go_wp2_with fail
  refine bodyPost_ret (v := .tuple #[.pointer (some ⟨w1.heap.size, 0, none⟩), .int .i64 0]) (by simp [results, Try.results9, go_sem]) rfl ⟨w1.heap.size, w.heap.size + 1, rfl, HC1.out.size, by omega, ⟨has_alloc_new _ _, HP.out.chg ((Chg.refl [] _).alloc _) (by simp), ?_⟩, HC1.out.alloc _⟩
  · exact ⟨by omega, ⟨h3, h4⟩, ⟨h5, h6⟩, fun i hi => ⟨h5, Int.le_refl _, by simp [newF], by simp [newF]⟩⟩

end Go.Proofs.Ytogianigkpldcaa
