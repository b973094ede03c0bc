/- The document's watch: a new one. -/
import Derived.Test.YtogianigkpldcaaBeatN
namespace Go.Proofs.Ytogianigkpldcaa
set_option linter.unusedVariables false
set_option linter.unusedSimpArgs false
open Go.RowKit

theorem elem_rpeer : ElemOK Try.prog 43 52 (.agg #[.int .i64 0, .int .i64 0, .bool false]) 3 24 := ⟨Try.underlying43, by kernel_rfl, rfl, by decide⟩

theorem own_prs {w : World} {base : Nat} {a : Option Addr} {n cap : Nat} {t : TypeId} {now : Int} (h : w.ownsRow base t 3 (.slice a (n + 1) cap) (n + 1) (rep (prCells ⟨now, 4, false⟩) (n + 1))) : ∃ q, a = some ⟨q, 0, none⟩ ∧ base ≤ q ∧ Prs w q n t (newF now) := by
  rcases h.2 with ⟨h0, h1⟩ | ⟨g, cap2, cur, hv, hb, hg, _⟩
  · exact absurd h1 (by omega)
  · injection hv with hv1 hv2 hv3
    subst hv1
    refine ⟨g, rfl, hb, cur, hg, fun i hi => ?_⟩
    have key : ∀ j u, (rep (prCells ⟨now, 4, false⟩) (n + 1))[j]? = some u → cur[j]? = some u := fun j u hu => by
      have := h.cells (g := g) rfl j u hu
      rwa [addr_add0, cell_of_has hg] at this
    have h0 := rep_get (prCells ⟨now, 4, false⟩) (k := n + 1) (i := i) (j := 0) (by omega) (by simp [prCells])
    have h1 := rep_get (prCells ⟨now, 4, false⟩) (k := n + 1) (i := i) (j := 1) (by omega) (by simp [prCells])
    have h2 := rep_get (prCells ⟨now, 4, false⟩) (k := n + 1) (i := i) (j := 2) (by omega) (by simp [prCells])
    exact ⟨key _ _ h0, key _ _ h1, key _ _ h2⟩

theorem rnew_bad (n me now : Int) (w : World) (hb : ¬ newOK n me now) :
    Calls Try.prog 15 #[.int .i64 n, .int .i64 me, .int .i64 now] w fun e w' => e = .returned (.tuple #[.pointer none, .int .i64 1]) ∧ w = w' := by
  have hb' : n < 1 ∨ (1 ≤ n ∧ 10 < n) ∨ (1 ≤ n ∧ n ≤ 10 ∧ me < 1) ∨ (1 ≤ n ∧ n ≤ 10 ∧ 1 ≤ me ∧ n < me) ∨ (1 ≤ n ∧ n ≤ 10 ∧ 1 ≤ me ∧ me ≤ n ∧ now < 0) ∨ (1 ≤ n ∧ n ≤ 10 ∧ 1 ≤ me ∧ me ≤ n ∧ 0 ≤ now ∧ 1099511627776 < now) := by
    unfold newOK at hb; omega
  clear hb
  rcases hb' with h1 | ⟨h1, h2⟩ | ⟨h1, h2, h3⟩ | ⟨h1, h2, h3, h4⟩ | ⟨h1, h2, h3, h4, h5⟩ | ⟨h1, h2, h3, h4, h5, h6⟩
  all_goals
    go_enter Try.func15, Try.ntmps15
    go_wp2_with fail
    exact bodyPost_ret (v := .tuple #[.pointer none, .int .i64 1]) (by simp [results, Try.results15, go_sem]) rfl ⟨rfl, rfl⟩

set_option maxRecDepth 100000 in
set_option maxHeartbeats 2000000 in
theorem rnew_ok (n : Nat) (me now : Int) (w : World) (hb : newOK n me now) :
    Calls Try.prog 15 #[.int .i64 n, .int .i64 me, .int .i64 now] w fun e w' => ∃ p q cap, e = .returned (.tuple #[.pointer (some ⟨p, 0, none⟩), .int .i64 0]) ∧ w.heap.size ≤ p ∧ w.heap.size ≤ q ∧ RT w' p q n cap me now (newF now) ∧ Chg [] w w' := by
  obtain ⟨h1, h2, h3, h4, h5, h6⟩ := hb
  obtain ⟨W0, hW0⟩ : ∃ W0, w.alloc (.cells #[.int .i64 n, .int .i64 me, .int .i64 now, .slice none 0 0] 45) = W0 := ⟨_, rfl⟩
  have q0 : W0.heap[w.heap.size]? = some (.cells #[.int .i64 n, .int .i64 me, .int .i64 now, .slice none 0 0] 45 (0, 0)) := by rw [← hW0]; exact has_alloc_new _ _
  have hC0 : Chg [] w W0 := by rw [← hW0]; exact (Chg.refl _ _).alloc _
  go_enter Try.func15, Try.ntmps15
  go_wp2_with fail
  clear hW0
  go_loopw [9] (fun i wr => ∃ (k : Nat) (v : Value), k ≤ n + 1 ∧ i = .int .i64 k ∧ wr.heap[w.heap.size]? = some (.cells #[.int .i64 n, .int .i64 me, .int .i64 now, v] 45 (0, 0)) ∧ wr.ownsRow w.heap.size 52 3 v k (rep (prCells ⟨now, 4, false⟩) k) ∧ Chg [] w wr) (fun i _ => n + 2 - (intOf i).toNat)
  case atStart => exact ⟨0, .slice none 0 0, by omega, rfl, q0, World.ownsRow_nil _ _ _ _, hC0⟩
  case round =>
    obtain ⟨k, v, hk, rfl, hq, hown, hC⟩ := hrel
    have hsz := hC.size
    have hlt := lt_of_has hq
    obtain ⟨a0, c9, rfl⟩ := own_shape hown
    have c0 : wr.cell? ⟨w.heap.size, 3, none⟩ = some (.slice a0 k c9) := cell_of_has hq 3
    have HQ := Lib.hid hq; have HC := Lib.hid hC
    clear hq hC
    have hneb : some w.heap.size ≠ (Value.slice a0 k c9).ownBlock := own_ne hown HQ.out (by decide)
    by_cases hkn : k ≤ n
    · go_wp2_with (at_builtin; go_loud (refine wpList_push rfl (.tmp 47) (.tmp 50) 43 rfl elem_rpeer w.heap.size rfl (hown.alloc _) wr.heap.size #[.int .i64 now, .int .i64 4, .bool false] rfl rfl (has_alloc_at (by first | rfl | (simp; done))) (by simp [Value.oneCell']) (by omega) (by omega) (by simp; omega) ?_; intro v3 w6 hown6 hgrow6 hat6; obtain ⟨a3, cap3, rfl⟩ := own_shape hown6; have hq3 := grown_has hgrow6 (has_alloc HQ.out) hneb; have e1 := cell_of_has hq3 3; have z1 := frozen_of_has hq3 3))
      have hne6 := own_ne hown6 hq3 (by decide)
      refine ⟨⟨k+1, _, by omega, by go_num, has_set hq3 3 _, ?_, ?_⟩, by simp [intOf]; omega⟩
      · rw [rep_add]
        refine own_chg (show w6.ownsRow w.heap.size 52 3 (.slice a3 (k + 1) cap3) (k + 1) (rep (prCells ⟨now, 4, false⟩) k ++ rep (prCells ⟨now, 4, false⟩) 1) from hown6) ((Chg.refl [w.heap.size] _).setCell (Or.inl (by simp)) _) ?_
        intro b hb hm
        obtain rfl := List.mem_singleton.1 hm
        exact hne6 hb.symm
      · refine ((HC.out.alloc _).grown hgrow6 ?_).setCell (Or.inr (Nat.le_refl _)) _
        intro b3 hb3
        exact Or.inr (hown.lt b3 hb3).1
    · obtain rfl : n + 1 = k := by omega
      obtain ⟨q, rfl, hq1, hP⟩ := own_prs hown
      have HP := Lib.hid hP
      clear hP
      go_wp2_with fail
      exact bodyPost_ret (v := .tuple #[.pointer (some ⟨w.heap.size, 0, none⟩), .int .i64 0]) (by simp [results, Try.results15, go_sem]) rfl ⟨_, _, _, rfl, Nat.le_refl _, hq1, ⟨HQ.out, HP.out, ⟨by omega, ⟨h3, h4⟩, ⟨h5, h6⟩, fun i hi => ⟨h5, Int.le_refl _, by simp [newF], by simp [newF]⟩⟩⟩, HC.out⟩

end Go.Proofs.Ytogianigkpldcaa
