/- The walks of package queue: Submit in one contract; the small case that each statement asks. -/
import Derived.Test.YtgiackgdceanhaaQueueH
import Derived.Test.YtgiackgdceanhaaFlat
import Derived.Outline
namespace Go.Proofs.Ytgiackgdceanhaa
set_option linter.unusedVariables false
set_option linter.unusedSimpArgs false
open Go.RowKit

def fnd (l : List Ent) (id : Int) : Option Ent := l.find? (fun e => e.id == id)
def subCode (l : List Ent) (id : Int) (m : ByteArray) : Int :=
  if okReq id m then (match fnd l id with | some e => knCode e m | none => if (waits l).length = 8 then 2 else 1) else 3
def subSig (l : List Ent) (id : Int) (m : ByteArray) : Sg :=
  if okReq id m then (match fnd l id with | some e => knSig e m | none => .zero) else .zero
def subL (l : List Ent) (id : Int) (m : ByteArray) (b : Nat) : List Ent :=
  if okReq id m then (match fnd l id with | some _ => l | none => if (waits l).length = 8 then l else l ++ [⟨id, m, false, .zero, b⟩]) else l

theorem fnd_some {l : List Ent} {id : Int} {e : Ent} (h : fnd l id = some e) : e ∈ l ∧ e.id = id := by
  have h1 := List.find?_some h
  exact ⟨List.mem_of_find?_eq_some h, by simpa using h1⟩
theorem fnd_none {l : List Ent} {id : Int} (h : fnd l id = none) : ∀ e ∈ l, e.id ≠ id := by
  intro e he hx
  have := List.find?_eq_none.1 h e he
  simp [hx] at this
theorem fnd_mem {l : List Ent} (hn : (l.map Ent.id).Nodup) {e : Ent} (he : e ∈ l) : fnd l e.id = some e := by
  induction l with
  | nil => cases he
  | cons x l ih =>
    simp only [List.map_cons, List.nodup_cons] at hn
    unfold fnd
    rw [List.find?_cons]
    rcases List.mem_cons.1 he with he | he
    · subst he; simp
    · by_cases hx : x.id = e.id
      · exact absurd (List.mem_map.2 ⟨e, he, hx.symm⟩) hn.1
      · have : (x.id == e.id) = false := by simpa using hx
        rw [this]
        exact ih hn.2 he
theorem fnd_no {l : List Ent} {id : Int} (h : ∀ e ∈ l, e.id ≠ id) : fnd l id = none := by
  unfold fnd
  rw [List.find?_eq_none]
  intro e he
  simpa using h e he

theorem submit_any (base q r : Nat) (v : Value) (l : List Ent) (id : Int) (m : ByteArray) (w : World) (hQ : QN w base q r v l) :
    Calls Try.prog 14 #[.pointer (some ⟨q, 0, none⟩), .agg #[.int .i64 id, .string m]] w fun e w' =>
      e = .returned (.tuple #[.int .i64 (subCode l id m), .agg #[.int .u64 (subSig l id m).x0, .int .u64 (subSig l id m).x1, .int .u64 (subSig l id m).x2, .int .u64 (subSig l id m).x3, .int .u64 (subSig l id m).y0, .int .u64 (subSig l id m).y1, .int .u64 (subSig l id m).y2, .int .u64 (subSig l id m).y3, .bool (subSig l id m).inf, .int .u64 (subSig l id m).z0, .int .u64 (subSig l id m).z1, .int .u64 (subSig l id m).z2, .int .u64 (subSig l id m).z3]]) ∧ ∃ v' b, w.heap.size ≤ b ∧ QN w' base q r v' (subL l id m b) ∧ (v'.ownBlock = v.ownBlock ∨ ∃ b, v'.ownBlock = some b ∧ w.heap.size ≤ b) ∧ Chg (q :: r :: v.ownBlock.toList) w w' := by
  have keep : ∀ {w' : World}, Chg [] w w' → QN w' base q r v l := fun hC => hQ.chg hC (by simp) (by simp) (by simp) (by simp)
  by_cases hok : okReq id m
  · cases hf : fnd l id with
    | some e0 =>
      obtain ⟨he, rfl⟩ := fnd_some hf
      refine (submit_known base q r v l e0 m w hQ he hok).mono ?_
      rintro e w' ⟨rfl, hC⟩
      refine ⟨?_, v, w.heap.size, Nat.le_refl _, ?_, Or.inl rfl, hC.mono (by simp)⟩
      · simp only [subCode, subSig, if_pos hok, hf]; rfl
      · simp only [subL, if_pos hok, hf]; exact keep hC
    | none =>
      have hno := fnd_none hf
      by_cases h8 : (waits l).length = 8
      · refine (submit_full base q r v l id m w hQ hno hok h8).mono ?_
        rintro e w' ⟨rfl, hC⟩
        refine ⟨?_, v, w.heap.size, Nat.le_refl _, ?_, Or.inl rfl, hC.mono (by simp)⟩
        · simp only [subCode, subSig, if_pos hok, hf, if_pos h8]; rfl
        · simp only [subL, if_pos hok, hf, if_pos h8]; exact keep hC
      · refine (submit_new base q r v l id m w hQ hno hok h8).mono ?_
        rintro e w' ⟨rfl, v', b, hb, hQ', hv, hC⟩
        refine ⟨?_, v', b, hb, ?_, hv, hC⟩
        · simp only [subCode, subSig, if_pos hok, hf, if_neg h8]; rfl
        · simp only [subL, if_pos hok, hf, if_neg h8]; exact hQ'
  · refine (submit_bad _ id m w hok).mono ?_
    rintro e w' ⟨rfl, hC⟩
    refine ⟨?_, v, w.heap.size, Nat.le_refl _, ?_, Or.inl rfl, hC.mono (by simp)⟩
    · simp only [subCode, subSig, if_neg hok]; rfl
    · simp only [subL, if_neg hok]; exact keep hC

theorem QN.chg0 {w w' : World} {base q r : Nat} {v : Value} {l : List Ent} (h : QN w base q r v l) (hC : Chg [] w w') : QN w' base q r v l := h.chg hC (by simp) (by simp) (by simp) (by simp)

/-- All blocks of a queue lie behind base. -/
theorem QN.chgs {w w' : World} {base q r : Nat} {v : Value} {l : List Ent} (h : QN w base q r v l) (hc : Chg (q :: r :: v.ownBlock.toList) w w') {S : List Nat} {a : World} (ha : Chg S a w) (hs : a.heap.size ≤ base) : Chg S a w' := by
  refine ha.trans_new hc ?_
  intro x hx
  right
  rcases List.mem_cons.1 hx with rfl | hx
  · have := h.hbase.1; omega
  · rcases List.mem_cons.1 hx with rfl | hx
    · have := h.hbase.2.1; omega
    · have := (h.hv.lt x (Option.mem_toList.1 hx)).1; omega

def sg7 : Sg := ⟨0, 0, 0, 0, 0, 0, 0, 0, false, 7, 0, 0, 0⟩

set_option maxRecDepth 100000 in
set_option maxHeartbeats 2000000 in
theorem law22_four (w : World) : Calls Try.prog 13 #[] w fun e w' => e = .returned (.bool true) ∧ Chg [] w w' := by
  have hka : okReq 1 ⟨#[97]⟩ := ⟨by decide, by decide, by decide⟩
  have hkb : okReq 1 ⟨#[98]⟩ := ⟨by decide, by decide, by decide⟩
  have s1 : ∀ b, subL [] 1 ⟨#[97]⟩ b = [⟨1, ⟨#[97]⟩, false, .zero, b⟩] := fun b => by
    unfold subL; rw [if_pos hka]; rfl
  have S1 := Lib.hid s1
  have HKB := Lib.hid hkb; have HKA := Lib.hid hka
  clear s1 hka hkb
  go_enter Try.func13, Try.ntmps13
  go_wp2_with fail
  refine (queue_new _).mono ?_
  rintro e w1 ⟨q, r, rfl, hq, hQ, hC⟩
  have HC := Lib.hid hC; clear hC
  have HQ := Lib.hid hQ; clear hQ
  go_wp2_with fail
  refine (submit_new w.heap.size q r _ [] 1 ⟨#[97]⟩ _ HQ.out (by simp) ⟨by decide, by decide, by decide⟩ (by simp [waits])).mono ?_
  rintro e w2 ⟨rfl, v2, b2, hb2, hQ2, hv2, hC2⟩
  have HQ2 := Lib.hid hQ2; have HC2 := Lib.hid (HQ.out.chgs hC2 HC.out (Nat.le_refl _)); clear hQ2 hC2
  go_wp2_with fail
  refine (submit_known w.heap.size q r _ _ ⟨1, ⟨#[97]⟩, false, .zero, b2⟩ ⟨#[98]⟩ _ (HQ2.out.chg0 (by repeat (with_reducible first | exact Chg.refl _ _ | refine Chg.setCell ?_ (Or.inr (Nat.le_refl _)) _ | apply Chg.drew | apply Chg.drewN | apply Chg.alloc))) (by simp) HKB.out).mono ?_
  rw [show knCode ⟨1, ⟨#[97]⟩, false, .zero, b2⟩ ⟨#[98]⟩ = 3 from by simp [knCode], show (knSig ⟨1, ⟨#[97]⟩, false, .zero, b2⟩ ⟨#[98]⟩).arr = #[.int .u64 0, .int .u64 0, .int .u64 0, .int .u64 0, .int .u64 0, .int .u64 0, .int .u64 0, .int .u64 0, .bool false, .int .u64 0, .int .u64 0, .int .u64 0, .int .u64 0] from by simp [knSig, Sg.arr, Sg.zero]]
  rintro e w3 ⟨rfl, hC3⟩
  have hC3' : Chg [] w2 w3 := Chg.trans (by repeat (with_reducible first | exact Chg.refl _ _ | refine Chg.setCell ?_ (Or.inr (Nat.le_refl _)) _ | apply Chg.drew | apply Chg.drewN | apply Chg.alloc)) hC3
  have HC3 := Lib.hid hC3'; clear hC3 hC3'
  go_wp2_with fail
  refine (finish_yes w.heap.size q r _ _ ⟨1, ⟨#[97]⟩, false, .zero, b2⟩ sg7 _ ((HQ2.out.chg0 HC3.out).chg0 (by repeat (with_reducible first | exact Chg.refl _ _ | refine Chg.setCell ?_ (Or.inr (Nat.le_refl _)) _ | apply Chg.drew | apply Chg.drewN | apply Chg.alloc))) (by simp) rfl).mono ?_
  rintro e w4 ⟨rfl, v4, g4, hv4, hg4, hQ4, hC4⟩
  have hfl : finL ([] ++ [⟨1, ⟨#[97]⟩, false, .zero, b2⟩]) 1 sg7 = [⟨1, ⟨#[97]⟩, true, sg7, b2⟩] := by simp [finL]
  have hC4' : Chg [q, b2] w3 w4 := Chg.trans (by repeat (with_reducible first | exact Chg.refl _ _ | refine Chg.setCell ?_ (Or.inr (Nat.le_refl _)) _ | apply Chg.drew | apply Chg.drewN | apply Chg.alloc)) hC4
  have hQ4' : QN w4 w.heap.size q r v4 [⟨1, ⟨#[97]⟩, true, sg7, b2⟩] := by rw [← hfl]; exact hQ4
  have hqs : w.heap.size ≤ q ∧ w.heap.size ≤ b2 := by
    have h1 := HC.out.size
    exact ⟨hq, by omega⟩
  have hCw4 : Chg [] w w4 := (HC2.out.trans HC3.out).trans_new hC4' (by simp; exact hqs)
  have HQ4 := Lib.hid hQ4'; have HCW4 := Lib.hid hCw4; clear hQ4 hQ4' hC4 hC4' hCw4 hfl
  go_wp2_with fail
  refine (submit_known w.heap.size q r _ _ ⟨1, ⟨#[97]⟩, true, sg7, b2⟩ ⟨#[97]⟩ _ (HQ4.out.chg0 (by repeat (with_reducible first | exact Chg.refl _ _ | refine Chg.setCell ?_ (Or.inr (Nat.le_refl _)) _ | apply Chg.drew | apply Chg.drewN | apply Chg.alloc))) (by simp) HKA.out).mono ?_
  rw [show knCode ⟨1, ⟨#[97]⟩, true, sg7, b2⟩ ⟨#[97]⟩ = 4 from by simp [knCode], show (knSig ⟨1, ⟨#[97]⟩, true, sg7, b2⟩ ⟨#[97]⟩).arr = #[.int .u64 0, .int .u64 0, .int .u64 0, .int .u64 0, .int .u64 0, .int .u64 0, .int .u64 0, .int .u64 0, .bool false, .int .u64 7, .int .u64 0, .int .u64 0, .int .u64 0] from by simp [knSig, Sg.arr, sg7]]
  rintro e w5 ⟨rfl, hC5⟩
  have hC5' : Chg [] w4 w5 := Chg.trans (by repeat (with_reducible first | exact Chg.refl _ _ | refine Chg.setCell ?_ (Or.inr (Nat.le_refl _)) _ | apply Chg.drew | apply Chg.drewN | apply Chg.alloc)) hC5
  have HC5 := Lib.hid hC5'; clear hC5 hC5'
  have heq : ∀ w : World, (binOp .eql 28 (.agg #[.int .u64 7, .int .u64 0, .int .u64 0, .int .u64 0]) (.agg #[.int .u64 7, .int .u64 0, .int .u64 0, .int .u64 0])).run Try.prog w = .ok (.bool true) w := fun _ => by kernel_rfl
  go_wp2_with fail
  go_ret
  refine ⟨rfl, HCW4.out.trans (HC5.out.trans ?_)⟩
  repeat (with_reducible first | exact Chg.refl _ _ | refine Chg.setCell ?_ (Or.inr (Nat.le_refl _)) _ | apply Chg.drew | apply Chg.drewN | apply Chg.alloc)

end Go.Proofs.Ytgiackgdceanhaa
