/- The walks of the reference's queue. -/
import Derived.Test.YtgiackgdceanhaaQueueK
namespace Go.Proofs.Ytgiackgdceanhaa
set_option linter.unusedVariables false
set_option linter.unusedSimpArgs false
open Go.RowKit

def Ent.one (e : Ent) : List Value := [.int .i64 e.id, .string e.m, .bool e.done, .int .u64 e.s.x0, .int .u64 e.s.x1, .int .u64 e.s.x2, .int .u64 e.s.x3, .int .u64 e.s.y0, .int .u64 e.s.y1, .int .u64 e.s.y2, .int .u64 e.s.y3, .bool e.s.inf, .int .u64 e.s.z0, .int .u64 e.s.z1, .int .u64 e.s.z2, .int .u64 e.s.z3]
def oneCells (l : List Ent) : List Value := l.flatMap Ent.one

/-- The reference's queue: its block, and all that were accepted. -/
structure RQ (w : World) (base u : Nat) (rv : Value) (l : List Ent) : Prop where
  hq : w.heap[u]? = some (.cells #[rv] 78 (0, 0))
  hv : w.ownsRow base 85 16 rv l.length (oneCells l)
  hb : base ≤ u

theorem RQ.chg {S : List Nat} {w w' : World} {base u : Nat} {rv : Value} {l : List Ent} (h : RQ w base u rv l) (hC : Chg S w w') (hu : u ∉ S) (hv : ∀ b, rv.ownBlock = some b → b ∉ S) : RQ w' base u rv l :=
  ⟨hC.has h.hq hu, own_chg h.hv hC hv, h.hb⟩
theorem RQ.chg0 {w w' : World} {base u : Nat} {rv : Value} {l : List Ent} (h : RQ w base u rv l) (hC : Chg [] w w') : RQ w' base u rv l := h.chg hC (by simp) (by simp)

theorem elem_one : ElemOK Try.prog 76 85 (.agg #[.int .i64 0, .string ⟨#[]⟩, .bool false, .int .u64 0, .int .u64 0, .int .u64 0, .int .u64 0, .int .u64 0, .int .u64 0, .int .u64 0, .int .u64 0, .bool false, .int .u64 0, .int .u64 0, .int .u64 0, .int .u64 0]) 16 136 := ⟨Try.underlying76, by kernel_rfl, rfl, by decide⟩

theorem own_one {w : World} {base : Nat} {l : List Ent} {a : Option Addr} {n cap : Nat} (h : w.ownsRow base 85 16 (.slice a n cap) n (oneCells l)) {j : Nat} {e : Ent} (he : l[j]? = some e) :
    ∃ g, a = some ⟨g, 0, none⟩ ∧ g < w.heap.size ∧ ∀ k, k < 16 → w.cell? ⟨g, j * 16 + k, none⟩ = e.one[k]? := by
  have hj := (List.getElem?_eq_some_iff.1 he).1
  have hlen := h.1
  have hf := flat_len Ent.one 16 (fun _ => rfl) l
  have hn : l.length = n := by
    have : (oneCells l).length = l.length * 16 := hf
    omega
  rcases h.2 with ⟨_, h0⟩ | ⟨g, cap', cur, hv, _, hg, _⟩
  · omega
  · injection hv with hv1 hv2 hv3
    subst hv1
    have hgg := flat_get Ent.one 16 (fun _ => rfl) l j e he
    refine ⟨g, rfl, lt_of_has hg, fun k hk => ?_⟩
    have := h.cellAt (j * 16 + k) (by omega)
    rw [this]; exact hgg k hk

theorem take_succ_some {α : Type} {l : List α} {j : Nat} {x : α} (h : l[j]? = some x) : l.take (j + 1) = l.take j ++ [x] := by
  obtain ⟨hj, hx⟩ := List.getElem?_eq_some_iff.1 h
  rw [List.take_succ_eq_append_getElem hj, hx]

theorem waits_append (l l' : List Ent) : waits (l ++ l') = waits l ++ waits l' := by simp [waits]

set_option maxRecDepth 100000 in
set_option maxHeartbeats 4000000 in
theorem rq_waits (base u : Nat) (rv : Value) (l : List Ent) (w : World) (hR : RQ w base u rv l) (hl : l.length ≤ 1000000) :
    Calls Try.prog 36 #[.pointer (some ⟨u, 0, none⟩)] w fun e w' => e = .returned (.int .i64 (waits l).length) ∧ Chg [] w w' := by
  obtain ⟨a, cap, rfl⟩ := own_shape hR.hv
  have c0 : w.cell? ⟨u, 0, none⟩ = some (.slice a l.length cap) := cell_of_has hR.hq 0
  obtain ⟨n, hn⟩ : ∃ n, l.length = n := ⟨_, rfl⟩
  have HR := Lib.hid hR; have HN := Lib.hid hn
  rw [hn] at c0 hl
  clear hR hn
  go_enter Try.func36, Try.ntmps36
  go_wp2_with fail
  go_loopw [3, 11] (fun c i wr => ∃ j : Nat, j ≤ n ∧ i = .int .i64 j ∧ c = .int .i64 (waits (l.take j)).length ∧ Chg [] w wr) (fun _ i _ => n - (intOf i).toNat)
  case atStart => exact ⟨0, by omega, rfl, rfl, Chg.refl _ _⟩
  case round =>
    obtain ⟨j, hj, rfl, rfl, hC⟩ := hrel
    have hle : (waits (l.take j)).length ≤ j := by
      have h1 := waits_len_le (l.take j)
      have h2 := List.length_take_le j l
      omega
    by_cases hlt : j < n
    · obtain ⟨e, he⟩ : ∃ e, l[j]? = some e := ⟨_, List.getElem?_eq_getElem (by rw [HN.out]; exact hlt)⟩
      have hown := (HR.out.chg0 hC).hv
      rw [HN.out] at hown
      obtain ⟨g, rfl, hg, hcd⟩ := own_one hown he
      have c0 : wr.cell? ⟨g, j * 16, none⟩ = some (.int .i64 e.id) := hcd 0 (by omega); have c1 : wr.cell? ⟨g, j * 16 + 1, none⟩ = some (.string e.m) := hcd 1 (by omega); have c2 : wr.cell? ⟨g, j * 16 + 2, none⟩ = some (.bool e.done) := hcd 2 (by omega); have c3 : wr.cell? ⟨g, j * 16 + 3, none⟩ = some (.int .u64 e.s.x0) := hcd 3 (by omega); have c4 : wr.cell? ⟨g, j * 16 + 4, none⟩ = some (.int .u64 e.s.x1) := hcd 4 (by omega); have c5 : wr.cell? ⟨g, j * 16 + 5, none⟩ = some (.int .u64 e.s.x2) := hcd 5 (by omega); have c6 : wr.cell? ⟨g, j * 16 + 6, none⟩ = some (.int .u64 e.s.x3) := hcd 6 (by omega); have c7 : wr.cell? ⟨g, j * 16 + 7, none⟩ = some (.int .u64 e.s.y0) := hcd 7 (by omega); have c8 : wr.cell? ⟨g, j * 16 + 8, none⟩ = some (.int .u64 e.s.y1) := hcd 8 (by omega); have c9 : wr.cell? ⟨g, j * 16 + 9, none⟩ = some (.int .u64 e.s.y2) := hcd 9 (by omega); have c10 : wr.cell? ⟨g, j * 16 + 10, none⟩ = some (.int .u64 e.s.y3) := hcd 10 (by omega); have c11 : wr.cell? ⟨g, j * 16 + 11, none⟩ = some (.bool e.s.inf) := hcd 11 (by omega); have c12 : wr.cell? ⟨g, j * 16 + 12, none⟩ = some (.int .u64 e.s.z0) := hcd 12 (by omega); have c13 : wr.cell? ⟨g, j * 16 + 13, none⟩ = some (.int .u64 e.s.z1) := hcd 13 (by omega); have c14 : wr.cell? ⟨g, j * 16 + 14, none⟩ = some (.int .u64 e.s.z2) := hcd 14 (by omega); have c15 : wr.cell? ⟨g, j * 16 + 15, none⟩ = some (.int .u64 e.s.z3) := hcd 15 (by omega)
      have hts : (waits (l.take (j + 1))).length = (waits (l.take j)).length + (if e.done = true then 0 else 1) := by
        rw [take_succ_some he, waits_append, waits_cons]
        cases e.done <;> simp [waits]
      generalize (waits (l.take j)).length = x at *
      have HTS := Lib.hid hts; have HC := Lib.hid hC
      clear hcd he hts hown hC
      cases hd : e.done
      · rw [hd] at c2
        have HD := Lib.hid hd; clear hd
        go_wp2_with fail
        refine ⟨⟨j+1, by omega, by go_num, ?_, HC.out.alloc _⟩, by simp [intOf]; omega⟩
        rw [HTS.out, HD.out]; go_num
      · rw [hd] at c2
        have HD := Lib.hid hd; clear hd
        go_wp2_with fail
        refine ⟨⟨j+1, by omega, by go_num, ?_, HC.out.alloc _⟩, by simp [intOf]; omega⟩
        rw [HTS.out, HD.out]; rfl
    · obtain rfl : n = j := by omega
      have ht : l.take n = l := List.take_of_length_le (by rw [HN.out]; exact Nat.le_refl _)
      rw [ht]
      go_wp2_with fail
      go_ret
      exact ⟨rfl, hC⟩

end Go.Proofs.Ytgiackgdceanhaa
