/- The walks of the king's law: which nodes fail; a table of nodes. -/
import Derived.Test.YtgiackgdceanhaaKingD
import Derived.Test.YtgiackgdceanhaaKingP
namespace Go.Proofs.Ytgiackgdceanhaa
set_option linter.unusedVariables false
set_option linter.unusedSimpArgs false
open Go.RowKit

def bitB (set : Int) (k : Nat) : Bool := bits BinOp.and IntKind.i64 (set / 2 ^ min k 64) 1 == 1
def failB (set f : Int) (k : Nat) : Bool := bitB set k && decide ((num (k+1) (bitB set) : Int) ≤ f)

theorem failB_num (set f : Int) (hf : 0 ≤ f) (n : Nat) : (num n (failB set f) : Int) ≤ f ∧ num n (failB set f) ≤ num n (bitB set) := by
  induction n with
  | zero => simp [num]; exact hf
  | succ n ih =>
    rw [num_succ, num_succ]
    cases hb : bitB set n
    · have : failB set f n = false := by simp [failB, hb]
      simp [this]; exact ih
    · cases hq : failB set f n
      · simp; exact ⟨ih.1, by omega⟩
      · have h1 : (num (n+1) (bitB set) : Int) ≤ f := by simp [failB, hb] at hq; exact hq
        rw [num_succ, hb] at h1
        simp at h1 ⊢
        omega

set_option maxHeartbeats 1000000 in
theorem law_fails (set f : Int) (i : Nat) (hi : i ≤ 100) (w : World) :
    Calls Try.prog 32 #[.int .i64 set, .int .i64 f, .int .i64 i] w fun e w' => e = .returned (.bool (failB set f i)) ∧ w' = w := by
  generalize hF : failB set f i = F
  have HF := Lib.hid hF
  clear hF
  go_enter Try.func32, Try.ntmps32
  go_wp2_with fail
  go_loop [7, 8] (fun n k => ∃ j : Nat, j ≤ i + 1 ∧ k = .int .i64 j ∧ n = .int .i64 (num j (bitB set))) (fun _ k => i + 1 - (intOf k).toNat)
  case atStart => exact ⟨0, by omega, rfl, rfl⟩
  case round =>
    obtain ⟨j, hj, rfl, rfl⟩ := hrel
    have hs := num_succ j (bitB set)
    have hle := num_le j (bitB set)
    by_cases hlt : j ≤ i
    · cases hb : bitB set j
      · have hb1 : (bits BinOp.and IntKind.i64 (set / 2 ^ min j 64) 1 == 1) = false := hb
        rw [hb] at hs
        have HS := Lib.hid hs
        clear hs hb
        generalize num j (bitB set) = q at *
        go_wp2
        refine ⟨⟨j+1, by omega, by go_num, ?_⟩, by simp [intOf]; omega⟩
        rw [HS.out]; simp
      · have hb1 : (bits BinOp.and IntKind.i64 (set / 2 ^ min j 64) 1 == 1) = true := hb
        rw [hb] at hs
        have HS := Lib.hid hs
        clear hs hb
        generalize num j (bitB set) = q at *
        go_wp2
        refine ⟨⟨j+1, by omega, by go_num, ?_⟩, by simp [intOf]; omega⟩
        rw [HS.out]; simp
    · obtain rfl : j = i + 1 := by omega
      clear hs
      cases hb : bitB set i
      · have hb1 : (bits BinOp.and IntKind.i64 (set / 2 ^ min i 64) 1 == 1) = false := hb
        have HB := Lib.hid hb
        clear hb
        go_wp2
        go_ret
        refine ⟨?_, rfl⟩
        rw [← HF.out]; simp [failB, HB.out]
      · have hb1 : (bits BinOp.and IntKind.i64 (set / 2 ^ min i 64) 1 == 1) = true := hb
        have HB := Lib.hid hb
        clear hb
        generalize hq : (num (i+1) (bitB set) : Int) = q at *
        have HQ := Lib.hid hq
        clear hq
        by_cases hqf : q ≤ f
        · go_wp2
          go_ret
          refine ⟨?_, rfl⟩
          rw [← HF.out]; simp [failB, HB.out, HQ.out, hqf]
        · go_wp2
          go_ret
          refine ⟨?_, rfl⟩
          rw [← HF.out]; simp [failB, HB.out, HQ.out]; omega

/-- The nodes of a table, at their blocks. -/
structure Nodes (w : World) (n f : Nat) (bs : List Nat) (ks : Nat → KS) (rr : Nat → Int) : Prop where
  len : bs.length ≤ n
  at_ : ∀ i, i < bs.length → KN w (bs.getD i 0) n f ((i : Int) + 1) (ks i).v (rr i) (ks i).bk
  nodup : bs.Nodup

def ptrs (bs : List Nat) : List Value := bs.map fun b => .pointer (some ⟨b, 0, none⟩)

def valOf (zs : List Int) (i : Nat) : Int := if zs.getD i 0 = 1 then 1 else 0

theorem Nodes.chg {w w' : World} {n f : Nat} {bs : List Nat} {ks : Nat → KS} {r : Nat → Int} {S : List Nat} (h : Nodes w n f bs ks r) (hc : Chg S w w') (hs : ∀ b ∈ bs, b ∉ S) : Nodes w' n f bs ks r :=
  ⟨h.len, fun i hi => (h.at_ i hi).chg hc (hs _ (by simp [hi])), h.nodup⟩

theorem Nodes.keep {w w' : World} {n f : Nat} {bs : List Nat} {ks : Nat → KS} {r : Nat → Int} (h : Nodes w n f bs ks r) (hk : ∀ b ∈ bs, ∀ o, w.heap[b]? = some o → w'.heap[b]? = some o) : Nodes w' n f bs ks r :=
  ⟨h.len, fun i hi => ⟨hk _ (by simp [hi]) _ (h.at_ i hi).h⟩, h.nodup⟩

theorem Nodes.has {w : World} {n f : Nat} {bs : List Nat} {ks : Nat → KS} {r : Nat → Int} (h : Nodes w n f bs ks r) {b : Nat} (hb : b ∈ bs) : ∃ cs, w.heap[b]? = some (.cells cs 99 (0, 0)) := by
  obtain ⟨i, hi, rfl⟩ := List.getElem_of_mem hb
  have := (h.at_ i hi).h
  simp [hi] at this
  exact ⟨_, this⟩

/-- One node more. -/
theorem table_push {w0 wr w1 : World} {n f k : Nat} {bs : List Nat} {ks : Nat → KS} {v : Value} {x : Int} {O : Obj} (hl : bs.length = k) (hk : k < n) (hN : Nodes wr n f bs ks (fun _ => 0)) (hB : ∀ b ∈ bs, w0.heap.size ≤ b)
    (hC : Chg [] w0 wr) (hown : wr.ownsRow w0.heap.size 51 1 v k (ptrs bs)) (hx : (ks k) = ⟨x, false⟩)
    (hg : ((wr.alloc (kingObj n f ((k : Int) + 1) x 0 false)).alloc O).grownBy w1 v.ownBlock) :
    Nodes w1 n f (bs ++ [wr.heap.size]) ks (fun _ => 0) ∧ (∀ b ∈ bs ++ [wr.heap.size], w0.heap.size ≤ b) ∧ Chg [] w0 w1 := by
  have hold : ∀ b ∈ bs, ∀ o, wr.heap[b]? = some o → w1.heap[b]? = some o := by
    intro b hb o ho
    obtain ⟨cs, hcs⟩ := hN.has hb
    exact grown_has hg (has_alloc (has_alloc ho)) (own_ne hown hcs (by decide))
  have hnew : w1.heap[wr.heap.size]? = some (kingObj n f ((k : Int) + 1) x 0 false) := by
    refine grown_has hg (has_alloc (has_alloc_new _ _)) ?_
    intro he
    have := hown.lt _ he.symm
    omega
  have hlt : ∀ b ∈ bs, b < wr.heap.size := fun b hb => by obtain ⟨cs, hcs⟩ := hN.has hb; exact lt_of_has hcs
  refine ⟨⟨by simp; omega, ?_, ?_⟩, ?_, ?_⟩
  · intro i hi
    by_cases h : i < bs.length
    · have := ((hN.keep hold).at_ i h)
      have e : (bs ++ [wr.heap.size]).getD i 0 = bs.getD i 0 := by simp [List.getD, List.getElem?_append_left h]
      rw [e]; exact this
    · have e : i = bs.length := by simp at hi; omega
      subst e
      have e : (bs ++ [wr.heap.size]).getD bs.length 0 = wr.heap.size := by simp [List.getD]
      rw [e, hl, hx]
      exact ⟨hnew⟩
  · rw [List.nodup_append]
    refine ⟨hN.nodup, by simp, ?_⟩
    intro a ha b hb
    simp at hb
    have := hlt a ha
    omega
  · intro b hb
    rcases List.mem_append.1 hb with h | h
    · exact hB b h
    · simp at h; have := hC.size; omega
  · refine ((hC.alloc _).alloc _).grown hg ?_
    intro b hb
    exact .inr (hown.lt b hb).1

theorem elem_nodes : ElemOK Try.prog 68 51 (.pointer none) 1 8 := ⟨Try.underlying68, by kernel_rfl, rfl, by decide⟩

set_option maxRecDepth 100000 in
set_option maxHeartbeats 1000000 in
theorem law_table (n f : Nat) (hn : 1 ≤ n ∧ n ≤ 10) (hf : 3 * f < n) (A : Option Addr) (cap : Nat) (zs : List Int) (w : World) (hm : zs.length ≤ 9223372036854775807) (hc : ReadsI w A zs) :
    Calls Try.prog 30 #[.int .i64 n, .int .i64 f, .slice A zs.length cap] w fun e w' => ∃ v bs, e = .returned v ∧
      w'.ownsRow w.heap.size 51 1 v n (ptrs bs) ∧ bs.length = n ∧ Nodes w' n f bs (fun i => ⟨valOf zs i, false⟩) (fun _ => 0) ∧ (∀ b ∈ bs, w.heap.size ≤ b) ∧ Chg [] w w' := by
  go_enter Try.func30, Try.ntmps30
  go_wp2_with fail
  go_loopw [7, 8] (fun v i wr => ∃ (k : Nat) (bs : List Nat), k ≤ n ∧ i = .int .i64 k ∧ bs.length = k ∧ wr.ownsRow w.heap.size 51 1 v k (ptrs bs) ∧
     Nodes wr n f bs (fun i => ⟨valOf zs i, false⟩) (fun _ => 0) ∧ (∀ b ∈ bs, w.heap.size ≤ b) ∧ Chg [] w wr) (fun _ i _ => n - (intOf i).toNat)
  case atStart => exact ⟨0, [], by omega, rfl, rfl, World.ownsRow_nil _ _ _ _, ⟨by simp, by simp, by simp⟩, by simp, Chg.refl _ _⟩
  case round =>
    obtain ⟨k, bs, hk, rfl, hl, hown, hN, hB, hC⟩ := hrel
    by_cases hlt : k < n
    · have hsz := hC.size
      by_cases hkl : k < zs.length
      · obtain ⟨b, off, rfl, hb, hcell0⟩ := hc (by omega)
        have hcell := hC.cell (hcell0 k hkl) (by simp)
        by_cases hz : zs.getD k 0 = 1
        · have HV := Lib.hid (show valOf zs k = 1 by simp only [valOf, hz]; rfl)
          rw [hz] at hcell
          clear hcell0 hc hz
          have HN := Lib.hid hN; have HB := Lib.hid hB; have HL := Lib.hid hl
          clear hN hB hl
          go_wp2_with fail
          refine (king_new_ok n f ((k : Int) + 1) _ _ (by unfold okNew; omega)).mono ?_
          rintro e w1 ⟨rfl, rfl⟩
          go_wp2_with (at_builtin; refine wpList_push rfl (.tmp 39) (.tmp 41) 68 rfl elem_nodes w.heap.size rfl ((hown.alloc _).alloc _) (wr.heap.size + 1) _ rfl rfl (has_alloc_at (by simp)) (by simp [Value.oneCell']) (by omega) (by omega) (by simp; omega) ?_; intro v' w1 hown1 hg1 hat1)
          obtain ⟨p1, p2, p3⟩ := table_push HL.out hlt HN.out HB.out hC hown (by rw [HV.out]) hg1
          refine ⟨⟨k+1, bs ++ [wr.heap.size], by omega, by go_num, by simp [HL.out], by simpa [ptrs] using hown1, p1, p2, p3⟩, by simp [intOf]; omega⟩
        · have HV := Lib.hid (show valOf zs k = 0 by simp only [valOf]; rw [if_neg hz])
          generalize zs.getD k 0 = z at *
          have hz1 : (z == 1) = false := by simpa using hz
          clear hcell0 hc hz
          have HN := Lib.hid hN; have HB := Lib.hid hB; have HL := Lib.hid hl
          clear hN hB hl
          go_wp2_with fail
          refine (king_new_ok n f ((k : Int) + 1) _ _ (by unfold okNew; omega)).mono ?_
          rintro e w1 ⟨rfl, rfl⟩
          go_wp2_with (at_builtin; refine wpList_push rfl (.tmp 39) (.tmp 41) 68 rfl elem_nodes w.heap.size rfl ((hown.alloc _).alloc _) (wr.heap.size + 1) _ rfl rfl (has_alloc_at (by simp)) (by simp [Value.oneCell']) (by omega) (by omega) (by simp; omega) ?_; intro v' w1 hown1 hg1 hat1)
          obtain ⟨p1, p2, p3⟩ := table_push HL.out hlt HN.out HB.out hC hown (by rw [HV.out]) hg1
          refine ⟨⟨k+1, bs ++ [wr.heap.size], by omega, by go_num, by simp [HL.out], by simpa [ptrs] using hown1, p1, p2, p3⟩, by simp [intOf]; omega⟩
      · have HV := Lib.hid (show valOf zs k = 0 by simp [valOf, List.getD, List.getElem?_eq_none (Nat.le_of_not_lt hkl)])
        have HN := Lib.hid hN; have HB := Lib.hid hB; have HL := Lib.hid hl
        have hkl' : decide (k < zs.length) = false := by simpa using hkl
        clear hN hB hl hc
        go_wp2_with fail
        refine (king_new_ok n f ((k : Int) + 1) _ _ (by unfold okNew; omega)).mono ?_
        rintro e w1 ⟨rfl, rfl⟩
        go_wp2_with (at_builtin; refine wpList_push rfl (.tmp 39) (.tmp 41) 68 rfl elem_nodes w.heap.size rfl ((hown.alloc _).alloc _) (wr.heap.size + 1) _ rfl rfl (has_alloc_at (by simp)) (by simp [Value.oneCell']) (by omega) (by omega) (by simp; omega) ?_; intro v' w1 hown1 hg1 hat1)
        obtain ⟨p1, p2, p3⟩ := table_push HL.out hlt HN.out HB.out hC hown (by rw [HV.out]) hg1
        refine ⟨⟨k+1, bs ++ [wr.heap.size], by omega, by go_num, by simp [HL.out], by simpa [ptrs] using hown1, p1, p2, p3⟩, by simp [intOf]; omega⟩
    · obtain rfl : k = n := by omega
      go_wp2
      go_ret
      exact ⟨_, bs, rfl, hown, hl, hN, hB, hC⟩

end Go.Proofs.Ytgiackgdceanhaa
