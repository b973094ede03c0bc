/- The walks of slices.Index, Contains, Clone at []int, as the queue calls them. -/
import Derived.Test.YtgiackgdceanhaaMap
namespace Go.Proofs.Ytgiackgdceanhaa
set_option linter.unusedVariables false
set_option linter.unusedSimpArgs false
open Go.RowKit

/-- Where a number stands first in a list; -1: nowhere. -/
def idxOf (zs : List Int) (x : Int) : Int := match zs.findIdx? (· == x) with | some i => i | none => -1

theorem idxOf_bd (zs : List Int) (x : Int) : -1 ≤ idxOf zs x ∧ idxOf zs x < zs.length := by
  unfold idxOf
  cases h : zs.findIdx? (· == x) with
  | none => simp; omega
  | some i =>
    have := (List.findIdx?_eq_some_iff_getElem.1 h).1
    simp; omega

theorem idxOf_at {zs : List Int} {x : Int} {k : Nat} (hk : k < zs.length) (hx : zs.getD k 0 = x) (hn : ∀ j, j < k → zs.getD j 0 ≠ x) : idxOf zs x = k := by
  unfold idxOf
  have : zs.findIdx? (· == x) = some k := by
    rw [List.findIdx?_eq_some_iff_getElem]
    refine ⟨hk, by simpa [List.getD, hk] using hx, ?_⟩
    intro j hj
    have := hn j hj
    have hj' : j < zs.length := by omega
    simpa [List.getD, hj'] using this
  rw [this]

theorem idxOf_none {zs : List Int} {x : Int} (hn : ∀ j, j < zs.length → zs.getD j 0 ≠ x) : idxOf zs x = -1 := by
  unfold idxOf
  have : zs.findIdx? (· == x) = none := by
    rw [List.findIdx?_eq_none_iff]
    intro y hy
    obtain ⟨j, hj, rfl⟩ := List.getElem_of_mem hy
    have := hn j hj
    simpa [List.getD, hj] using this
  rw [this]

theorem idxOf_mem (zs : List Int) (x : Int) : 0 ≤ idxOf zs x ↔ x ∈ zs := by
  unfold idxOf
  cases h : zs.findIdx? (· == x) with
  | none =>
    rw [List.findIdx?_eq_none_iff] at h
    simp
    intro hm
    have := h x hm
    simp at this
  | some i =>
    obtain ⟨hi, h1, _⟩ := List.findIdx?_eq_some_iff_getElem.1 h
    simp at h1
    simp
    rw [← h1]
    exact List.getElem_mem hi

set_option maxHeartbeats 1000000 in
theorem sl_index (a : Option Addr) (len cap : Nat) (zs : List Int) (x : Int) (w : World) (hl : zs.length = len) (hm : len ≤ 9223372036854775807) (hc : ReadsI w a zs) :
    Calls Try.prog 39 #[.slice a len cap, .int .i64 x] w fun e w' => e = .returned (.int .i64 (idxOf zs x)) ∧ w' = w := by
  subst hl
  go_enter Try.func39, Try.ntmps39
  go_wp2_with fail
  go_loop [8] (fun i => ∃ k : Nat, k ≤ zs.length ∧ i = .int .i64 k ∧ (∀ j, j < k → zs.getD j 0 ≠ x)) (fun i => zs.length - (intOf i).toNat)
  case atStart => exact ⟨0, Nat.zero_le _, rfl, by simp⟩
  case round =>
    obtain ⟨k, hk, rfl, hn⟩ := hrel
    have HN := Lib.hid hn; clear hn
    by_cases hlt : k < zs.length
    · obtain ⟨b, off, rfl, hb, hcell0⟩ := hc (by omega)
      have hcell := hcell0 k hlt
      clear hc hcell0
      by_cases hz : zs.getD k 0 = x
      · have hi := idxOf_at hlt hz HN.out
        rw [hz] at hcell
        have HI := Lib.hid hi
        clear hi hz
        go_wp2
        go_ret
        refine ⟨?_, rfl⟩
        rw [HI.out]; rfl
      · have HZ := Lib.hid hz
        generalize hzz : zs.getD k 0 = z at *
        have HZZ := Lib.hid hzz; clear hzz
        have e : (x == z) = false := by simpa using fun h => hz h.symm
        have e2 : ¬ x = z := fun h => hz h.symm
        clear hz
        go_wp2
        refine ⟨⟨k+1, by omega, by go_num, ?_⟩, by simp [intOf]; omega⟩
        intro j hj
        by_cases e3 : j = k
        · subst e3; rw [HZZ.out]; exact HZ.out
        · exact HN.out j (by omega)
    · have hi := idxOf_none (zs := zs) (x := x) (fun j hj => HN.out j (by omega))
      have HI := Lib.hid hi
      clear hi
      go_wp2
      go_ret
      refine ⟨?_, rfl⟩
      rw [HI.out]; rfl


set_option maxHeartbeats 400000 in
theorem sl_contains (a : Option Addr) (len cap : Nat) (zs : List Int) (x : Int) (w : World) (hl : zs.length = len) (hm : len ≤ 9223372036854775807) (hc : ReadsI w a zs) :
    Calls Try.prog 38 #[.slice a len cap, .int .i64 x] w fun e w' => e = .returned (.bool (decide (0 ≤ idxOf zs x))) ∧ w' = w := by
  go_enter Try.func38, Try.ntmps38
  go_wp2_with fail
  refine (sl_index a len cap zs x w hl hm hc).mono ?_
  rintro e w' ⟨rfl, rfl⟩
  go_wp2
  go_ret
  exact ⟨rfl, rfl⟩

theorem elem_intS : ElemOK Try.prog 22 3 (.int .i64 0) 1 8 := ⟨Try.underlying22, by kernel_rfl, rfl, by decide⟩

/-- 'append(row of the call's own, src...)', src at an address. -/
theorem wpList_append_src {P : Program} {w : World} {ops : Array Oper} {rest : List Oper} {o : Oper} {a : Act} {Q : Exit → Act → World → Prop} (hgd : o.guard = none) (s x : Operand) (t : TypeId)
    (ho : o.op = .call { callee := .builtin .append, args := #[s, x], argTypes := #[t, t] }) {e : TypeId} {z : Value} {size bytes : Nat} (E : ElemOK P t e z size bytes)
    (base : Nat) {v : Value} {n : Nat} {xs : List Value} (hs : a.eval s = v) (hown : w.ownsRow base e size v n xs) (ad : Addr) (m c : Nat) (news : List Value)
    (hx : a.eval x = .slice (some ad) m c) (hl : news.length = m * size) (hnews : ∀ j u, news[j]? = some u → w.cell? (ad.add j) = some u) (h1 : ∀ u ∈ news, u.oneCell' = true)
    (hb : (n + m) * bytes ≤ 140737488355328) (h63 : n + m ≤ 9223372036854775807) (hbase : base ≤ w.heap.size)
    (h : ∀ v' w', w'.ownsRow base e size v' (n + m) (xs ++ news) → w.grownBy w' v.ownBlock → (v'.ownBlock = v.ownBlock ∨ v'.ownBlock = some w.heap.size) → wpList P ops Q rest (a.put o.dst v') w') :
    wpList P ops Q (o :: rest) a w := by
  refine wpList_plain hgd fun K hK => ?_
  obtain ⟨i, hi, hz0, hz1, hz2⟩ := info_parts E.hi
  obtain ⟨v', w', hrun, h2, h3, _, h4⟩ := run_append_own_at (P := P) w base t o.type e i z size bytes E.ht hi hz0 hz1 hz2 E.hzs E.hsz v n xs hown ad m c news hl hnews h1 (by simp only [maxLen]; omega) hb hbase
  unfold Oper.wp execOp
  simp only [ho, resolve, invoke, builtin, Sem.run_bind, Sem.run_pure, Result.andThen_ok, List.map_toArray, List.map_cons, List.map_nil, hs, hx, hrun]
  exact hK _ _ (h v' w' h2 h3 h4)

set_option maxHeartbeats 1000000 in
theorem sl_clone (g n cap : Nat) (zs : List Int) (w : World) (hl : zs.length = n) (hm : n ≤ 100000) (hn : 0 < n) (hc : ReadsI w (some ⟨g, 0, none⟩) zs) :
    Calls Try.prog 41 #[.slice (some ⟨g, 0, none⟩) n cap] w fun e w' => ∃ v, e = .returned v ∧ w'.ownsRow w.heap.size 3 1 v n (ints zs) ∧ Chg [] w w' := by
  have hneq : (binOp .eql 22 (.slice (some ⟨g, 0, none⟩) n cap) (.slice none 0 0)).run Try.prog w = .ok (.bool false) w := by
    exact Lib.run_eql_slice_nil w 22 3 (some ⟨g, 0, none⟩) n cap 0 0 Try.underlying22
  obtain ⟨b, off, hbo, hb, hcell⟩ := hc (by omega)
  injection hbo with hbo
  injection hbo with hb1 hb2
  subst hb1; subst hb2
  go_enter Try.func41, Try.ntmps41
  go_wp2_with (at_builtin; go_loud (refine wpList_append_src rfl (.tmp 5) (.tmp 6) 22 rfl elem_intS w.heap.size rfl (World.ownsRow_made w #[] 0 (Nat.le_refl _) (by decide) (by simp)) ⟨g, 0, none⟩ n cap (ints zs) rfl (by simp [ints, hl]) (fun j u hu => ?_) (ints_oneCell .i64 zs) (by omega) (by omega) (by simp) ?_))
  · have hj : j < zs.length := by
      have := (List.getElem?_eq_some_iff.1 hu).1
      simpa [ints] using this
    have h1 := hcell j hj
    rw [Nat.zero_add] at h1
    rw [h1]
    simp [ints, hj] at hu
    simp [List.getD, hj, hu]
  · intro v' w' hown hg hat
    go_wp2
    go_ret
    refine ⟨v', rfl, by simpa using hown, ?_⟩
    refine ((Chg.refl [] w).alloc _).grown hg ?_
    intro k hk
    simp [Value.ownBlock] at hk
    right; omega

end Go.Proofs.Ytgiackgdceanhaa
