/- WritParses: the walk of the law. -/
import Derived.Test.YtkcfbacapaonaaaDoorWrW
namespace Go.Proofs.YtkcfbacapaonaaaDoor
set_option linter.unusedVariables false
set_option linter.unusedSimpArgs false
open Go.RowKit Go.Lib

theorem goS_size : ∀ {ls : List (List UInt8)} {i : Nat} {s : Sc}, (goS i s ls).1.l.length ≤ s.l.length + ls.length
  | [], i, s => by rw [goS]; simp [Sc.zero]
  | [t], i, s => by
    rw [goS_last]
    split
    · simp
    · simp [Sc.zero]
  | t :: u :: r, i, s => by
    rw [goS]
    · split
      · split
        · simp [Sc.zero]
        · rename_i h hh
          have h1 := (line_head hh).2.2.2.2.1
          have := goS_size (ls := u :: r) (i := i + 1) (s := h)
          rw [h1] at this
          simp at this ⊢
          omega
      · split
        · simp [Sc.zero]
        · rename_i x hx
          split
          · simp [Sc.zero]
          · have := goS_size (ls := u :: r) (i := i + 1) (s := { s with l := s.l ++ [x] })
            simp at this ⊢
            omega
    · simp
theorem parse_size (t : List UInt8) : (parseS t).1.l.length ≤ t.length + 1 := by
  have h1 := goS_size (ls := parts 10 t) (i := 0) (s := Sc.zero)
  have h2 := parts_count (c := 10) t
  unfold parseS
  simp only [Sc.zero, List.length_nil] at h1
  exact Nat.le_trans h1 (by omega)

set_option maxRecDepth 100000 in
set_option maxHeartbeats 16000000 in
theorem parses_walk (s : ByteArray) (w : World) (hg : GW w) : Calls Tryd.prog 4 #[.string s] w fun e w' => e = .returned (.bool true) ∧ Chg [] w w' := by
  have c3 := Lib.hid (fun w hg => three_any w hg)
  by_cases hb : 20000 < s.size
  · have f1 : decide ((20000 : Int) < s.size) = true := decide_eq_true (by omega)
    go_enter Tryd.func4, Tryd.ntmps4
    go_wp2_with fail
    refine (c3.out _ hg).mono ?_
    rintro e w1 ⟨rfl, hC⟩
    have HC := Lib.hid hC
    clear hC
    go_wp2_with fail
    go_ret
    exact ⟨rfl, HC.out⟩
  · have f1 : decide ((20000 : Int) < s.size) = false := decide_eq_false (by omega)
    have c1 := Lib.hid (fun w hg => parse_any s (by omega) w hg)
    have c2 := Lib.hid (fun w hg => ref_parse s (by omega) w hg)
    have hsz : s.data.toList.length = s.size := rfl
    have hl : (parseS s.data.toList).1.l.length ≤ 20001 := by have := parse_size s.data.toList; omega
    obtain ⟨r, k, er, hr⟩ : ∃ r k er, parseS s.data.toList = (r, k, er) := ⟨_, _, _, rfl⟩
    rw [hr] at hl
    have HR := Lib.hid hr; have HG := Lib.hid hg
    clear hr hg hsz hb
    go_enter Tryd.func4, Tryd.ntmps4
    go_wp2_with fail
    refine (c1.out _ HG.out).mono ?_
    rintro e w1 ⟨hP, hC⟩
    rw [HR.out] at hP
    obtain ⟨A, cap, rfl, hRd⟩ := hP
    dsimp only [scv]
    have hA : Chg [] w (w1.alloc (.cells (scv r (.slice A r.l.length cap)) 24)) := hC.alloc _
    have hR1 := hRd.chg ((Chg.refl [] w1).alloc (.cells (scv r (.slice A r.l.length cap)) 24)) (by simp)
    obtain ⟨b, hb⟩ : ∃ b, w1.heap.size = b := ⟨_, rfl⟩
    obtain ⟨W2, hW2⟩ : ∃ W2, w1.alloc (.cells (scv r (.slice A r.l.length cap)) 24) = W2 := ⟨_, rfl⟩
    have hX : W2.heap[b]? = some (.cells (scv r (.slice A r.l.length cap)) 24 (0, 0)) := by rw [← hW2, ← hb]; exact has_alloc_new _ _
    rw [hW2] at hA hR1
    have HX := Lib.hid hX; have HC := Lib.hid hA; have HRa := Lib.hid hR1; have HW2 := Lib.hid hW2; have Hb := Lib.hid hb
    clear hC hRd hA hR1 hb hW2 hX
    go_upto_region 4 with fail
    try rw [show w1.alloc (.cells #[.int .i64 r.n, .int .i64 r.f, .int .i64 r.odd, .string ⟨r.seed.toArray⟩, .slice A r.l.length cap] 24) = W2 from HW2.out]
    try rw [HW2.out]
    try rw [Hb.out]
    go_wp2_with fail
    refine (c2.out _ (HG.out.chg HC.out)).mono ?_
    rintro e w3 ⟨hP, hC3⟩
    rw [HR.out] at hP
    obtain ⟨B, cap2, rfl, hRd⟩ := hP
    dsimp only [scv]
    have hA : Chg [] W2 (w3.alloc (.cells (scv r (.slice B r.l.length cap2)) 32)) := hC3.alloc _
    have hR1 := hRd.chg ((Chg.refl [] w3).alloc (.cells (scv r (.slice B r.l.length cap2)) 32)) (by simp)
    obtain ⟨b2, hb⟩ : ∃ b, w3.heap.size = b := ⟨_, rfl⟩
    obtain ⟨W4, hW4⟩ : ∃ W4, w3.alloc (.cells (scv r (.slice B r.l.length cap2)) 32) = W4 := ⟨_, rfl⟩
    have hY : W4.heap[b2]? = some (.cells (scv r (.slice B r.l.length cap2)) 32 (0, 0)) := by rw [← hW4, ← hb]; exact has_alloc_new _ _
    rw [hW4] at hA hR1
    have HX4 := Lib.hid (hA.has HX.out nmN); have HY := Lib.hid hY; have HC4 := Lib.hid (HC.out.trans hA); have HRa4 := Lib.hid (HRa.out.chg hA (by simp)); have HRb := Lib.hid hR1; have HW4 := Lib.hid hW4; have Hb2 := Lib.hid hb
    clear hC3 hRd hA hR1 hb hW4 hY
    go_upto_region 5 with fail
    try rw [show w3.alloc (.cells #[.int .i64 r.n, .int .i64 r.f, .int .i64 r.odd, .string ⟨r.seed.toArray⟩, .slice B r.l.length cap2] 32) = W4 from HW4.out]
    try rw [HW4.out]
    try rw [Hb2.out]
    obtain ⟨x0, x1, x2, x3, x4⟩ := sc_all HX4.out
    obtain ⟨y0, y1, y2, y3, y4⟩ := sc_all HY.out
    have cs := same_eq (s := r) (ca := cap) (cb := cap2) (n := r.l.length) rfl (by omega) W4 HRa4.out HRb.out
    simp only [scv] at cs
    have CS := Lib.hid cs
    clear cs
    go_wp2_with fail
    have hm : (w3.heap.size = b2) := Hb2.out
    refine CS.out.mono ?_
    rintro e w5 ⟨rfl, hC5⟩
    have c3 := three_any w5 (HG.out.chg (HC4.out.trans hC5))
    have C3 := Lib.hid c3
    have HC5 := Lib.hid (HC4.out.trans hC5)
    clear hC5 c3
    go_wp2_with fail
    refine C3.out.mono ?_
    rintro e w6 ⟨rfl, hC6⟩
    go_wp2_with fail
    go_ret
    exact ⟨rfl, HC5.out.trans hC6⟩

end Go.Proofs.YtkcfbacapaonaaaDoor
