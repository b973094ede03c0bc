/- The walks of package queue: Waiting, Finish. -/
import Derived.Test.YtgiackgdceanhaaQueueF
namespace Go.Proofs.Ytgiackgdceanhaa
set_option linter.unusedVariables false
set_option linter.unusedSimpArgs false
open Go.RowKit

theorem elem_req : ElemOK Try.prog 45 36 (.agg #[.int .i64 0, .string ⟨#[]⟩]) 2 24 := ⟨Try.underlying45, by kernel_rfl, rfl, by decide⟩

def pend (l : List Ent) : List Ent := l.filter (fun e => !e.done)
theorem waits_pend (l : List Ent) : waits l = (pend l).map Ent.id := rfl
def reqCells (l : List Ent) : List Value := l.flatMap fun e => [.int .i64 e.id, .string e.m]

theorem reqCells_snoc (l : List Ent) (e : Ent) : reqCells (l ++ [e]) = reqCells l ++ [.int .i64 e.id, .string e.m] := by simp [reqCells]

set_option maxRecDepth 100000 in
set_option maxHeartbeats 2000000 in
theorem queue_waiting (base q r : Nat) (v : Value) (l : List Ent) (w : World) (hQ : QN w base q r v l) :
    Calls Try.prog 17 #[.pointer (some ⟨q, 0, none⟩)] w fun e w' => ∃ v', e = .returned v' ∧ w'.ownsRow w.heap.size 36 2 v' (waits l).length (reqCells (pend l)) ∧ Chg [] w w' := by
  obtain ⟨a, cap, rfl⟩ := own_shape hQ.hv
  have c1 : w.cell? ⟨q, 1, none⟩ = some (.slice a (waits l).length cap) := cell_of_has hQ.hq 1
  have h8 := hQ.h8
  have hpl : (pend l).length = (waits l).length := by simp [waits_pend]
  generalize hn : (waits l).length = n at *
  have HQ := Lib.hid hQ; have HN := Lib.hid hn; have HPL := Lib.hid hpl
  clear hQ hn hpl
  go_enter Try.func17, Try.ntmps17
  go_wp2_with fail
  go_loopw [3, 13] (fun v' i wr => ∃ k : Nat, k ≤ n ∧ i = .int .i64 k ∧ wr.ownsRow w.heap.size 36 2 v' k (reqCells ((pend l).take k)) ∧ Chg [] w wr) (fun _ i _ => n - (intOf i).toNat)
  case atStart => exact ⟨0, by omega, rfl, World.ownsRow_nil _ _ _ _, Chg.refl _ _⟩
  case round =>
    obtain ⟨k, hk, rfl, hown, hC⟩ := hrel
    by_cases hlt : k < n
    · have hkl : k < (pend l).length := by rw [HPL.out]; exact hlt
      generalize he : (pend l)[k] = e0
      have hmem : e0 ∈ l := by
        have : e0 ∈ pend l := by rw [← he]; exact List.getElem_mem hkl
        exact (List.mem_filter.1 this).1
      have hsn : (pend l).take (k + 1) = (pend l).take k ++ [e0] := by rw [List.take_succ_eq_append_getElem hkl, he]
      have hQr := HQ.out.chg hC (by simp) (by simp) (by simp) (by simp)
      obtain ⟨g, cap2, cur, hva, hRd, hg0, hgl, hgc, _⟩ := own_ints hQr.hv (by rw [HN.out]; omega)
      rw [HN.out] at hva
      injection hva with hva1 hva2 hva3
      subst hva1; subst hva3
      obtain ⟨gb, go, hge, _, hcc⟩ := hRd (by rw [HN.out]; omega)
      have hx := hcc k (by rw [HN.out]; exact hlt)
      have hid : (waits l).getD k 0 = e0.id := by simp [waits_pend, List.getD, hkl, he]
      rw [hid] at hx
      injection hge with hge
      injection hge with hge1 hge2
      subst hge1; subst hge2
      rw [Nat.zero_add] at hx
      have hl := look_keys hQr.hn hmem
      have c0 : wr.cell? ⟨q, 0, none⟩ = some (.map (some r)) := cell_of_has hQr.hq 0
      have b0 : wr.cell? ⟨e0.b, 0, none⟩ = some (.string e0.m) := cell_of_has (hQr.hk e0 hmem) 0
      have hbb := lt_of_has (hQr.hk e0 hmem)
      have hlk := run_lookup_one (P := Try.prog) (T := 87) (K := 3) (E := 90) (z := .pointer none) Try.underlying87 Try.underlying3 (by kernel_rfl) hQr.hm e0.id
      rw [hl] at hlk
      simp only [Option.getD_some] at hlk
      have HSN := Lib.hid hsn
      have hsz := hC.size
      clear he hmem hsn hQr hl hRd hcc hid hgc hkl
      go_wp2_with (at_builtin; go_loud (refine wpList_push rfl (.tmp 17) (.tmp 29) 45 rfl elem_req w.heap.size rfl (hown.alloc _) wr.heap.size #[.int .i64 e0.id, .string e0.m] rfl rfl (has_alloc_at (by first | rfl | (simp; done))) (by simp [Value.oneCell']) (by omega) (by omega) (by simp; omega) ?_); intro v' w1 hown1 hg1 hat1)
      refine ⟨⟨k+1, by omega, by go_num, ?_, ?_⟩, by simp [intOf]; omega⟩
      · rw [HSN.out, reqCells_snoc]; exact hown1
      · refine ((hC).alloc _).grown hg1 ?_
        intro b' hb'
        exact .inr (hown.lt b' hb').1
    · obtain rfl : n = k := by omega
      go_wp2_with fail
      go_ret
      refine ⟨_, rfl, ?_, hC⟩
      have : (pend l).take n = pend l := List.take_of_length_le (by rw [HPL.out]; exact Nat.le_refl _)
      rw [this] at hown
      exact hown

end Go.Proofs.Ytgiackgdceanhaa
