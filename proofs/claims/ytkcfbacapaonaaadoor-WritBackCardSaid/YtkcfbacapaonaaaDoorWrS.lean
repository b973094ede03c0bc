/- The script of a first line: the walk of the document's head. Printed by rhead.py. -/
import Derived.Test.YtkcfbacapaonaaaDoorWrR
namespace Go.Proofs.YtkcfbacapaonaaaDoor
set_option linter.unusedVariables false
set_option linter.unusedSimpArgs false
open Go.RowKit Go.Lib

/-- The script of a first line, word by word. -/
def headR (t : List UInt8) : Option Sc := match parts 32 t with
  | [b, a1, a2, a3, a4] => if b = benchW then (numS a1).bind fun n => (numS a2).bind fun f => (numS a3).bind fun o => (txtS a4).bind fun d => if 0 ≤ o ∧ o ≤ 1023 ∧ d.length ≤ 60 then some ⟨n, f, o, d, []⟩ else none else none
  | _ => none
theorem head_iff (t : List UInt8) : headL (looseH t) = t ↔ headPs (looseH t) = parts 32 t := by
  constructor
  · intro h
    have : parts 32 (headL (looseH t)) = parts 32 t := by rw [h]
    rwa [parts_head] at this
  · intro h
    unfold headL
    rw [h, join_parts]
theorem headS_R (t : List UInt8) : headS t = headR t := by
  unfold headS headR
  simp only [head_iff]
  cases hp : parts 32 t with
  | nil => exact absurd hp (parts_ne _ _)
  | cons b r =>
    by_cases hl : r.length = 4
    · match r, hl with
      | [a1, a2, a3, a4], _ =>
        have e : looseH t = ⟨numV a1, numV a2, numV a3, unhexL a4, []⟩ := by unfold looseH; rw [hp]
        rw [e]
        simp only [headPs, List.cons.injEq, and_true]
        by_cases h0 : b = benchW
        · rw [if_pos h0]
          by_cases h1 : itoa (numV a1) = a1
          · by_cases h2 : itoa (numV a2) = a2
            · by_cases h3 : itoa (numV a3) = a3
              · by_cases h4 : hexL (unhexL a4) = a4
                · simp only [numS, txtS, h1, h2, h3, h4, if_true, Option.bind_some, h0.symm]
                  by_cases hb : 0 ≤ numV a3 ∧ numV a3 ≤ 1023 ∧ (unhexL a4).length ≤ 60
                  · rw [if_pos hb, if_pos ⟨⟨trivial, trivial, trivial, trivial, trivial⟩, by omega⟩]
                  · rw [if_neg hb, if_neg (fun h => hb (by omega))]
                · simp [numS, txtS, h1, h2, h3, h4]
              · simp [numS, h1, h2, h3]
            · simp [numS, h1, h2]
          · simp [numS, h1]
        · rw [if_neg h0, if_neg (fun h => h0 h.1.1.symm)]
    · rw [if_neg (fun h => hl (by
        have := congrArg List.length h.1
        simp [headPs] at this
        omega))]
      match r, hl with
      | [], _ => rfl
      | [_], _ => rfl
      | [_, _], _ => rfl
      | [_, _, _], _ => rfl
      | [_, _, _, _], h => exact absurd rfl h
      | _ :: _ :: _ :: _ :: _ :: _, _ => rfl

def HdOut (o : Option Sc) (e : Ending) : Prop := match o with | some h => e = .returned (.tuple #[.agg (scv h (.slice none 0 0)), .bool true]) | none => ∃ h, e = .returned (.tuple #[.agg (scv h (.slice none 0 0)), .bool false])
theorem num_two {o : Option Int} {e : Ending} (h : NumOut o e) : ∃ n b, e = .returned (.tuple #[.int .i64 n, .bool b]) ∧ o = if b = true then some n else none := by
  cases o with
  | none => obtain ⟨n, h⟩ := h; exact ⟨n, false, h, rfl⟩
  | some m => exact ⟨m, true, h, rfl⟩
theorem txt_two {o : Option (List UInt8)} {e : Ending} (h : TxtOut o e) : ∃ (d : List UInt8) (b : Bool), e = .returned (.tuple #[.string ⟨d.toArray⟩, .bool b]) ∧ o = if b = true then some d else none := by
  cases o with
  | none => exact ⟨[], false, h, rfl⟩
  | some m => exact ⟨m, true, h, rfl⟩
def put5 (w : World) (b : Nat) (s : Sc) (v : Value) : World := ((((w.setCell ⟨b, 0, none⟩ (.int .i64 s.n)).setCell ⟨b, 1, none⟩ (.int .i64 s.f)).setCell ⟨b, 2, none⟩ (.int .i64 s.odd)).setCell ⟨b, 3, none⟩ (.string ⟨s.seed.toArray⟩)).setCell ⟨b, 4, none⟩ v
theorem put5_has {w : World} {b : Nat} {t : TypeId} {x : Sc} {u : Value} (h : w.heap[b]? = some (.cells (scv x u) t (0, 0))) (s : Sc) (v : Value) : (put5 w b s v).heap[b]? = some (.cells (scv s v) t (0, 0)) :=
  has_set (has_set (has_set (has_set (has_set h 0 _) 1 _) 2 _) 3 _) 4 _
theorem Chg.put5 {S : List Nat} {a w : World} (h : Chg S a w) {b : Nat} (hb : b ∈ S ∨ a.heap.size ≤ b) (s : Sc) (v : Value) : Chg S a (put5 w b s v) :=
  ((((h.setCell hb _).setCell hb _).setCell hb _).setCell hb _).setCell hb _
theorem sc_fz {w : World} {b : Nat} {s : Sc} {v : Value} {t : TypeId} (h : w.heap[b]? = some (.cells (scv s v) t (0, 0))) (i : Nat) : w.frozen? ⟨b, i, none⟩ = false := frozen_of_has h i

set_option maxRecDepth 100000 in
set_option maxHeartbeats 16000000 in
theorem ref_head (s : ByteArray) (hs : s.size ≤ 1000000) (w : World) (hg : GW w) : Calls Tryd.prog 28 #[.string s] w fun e w' => HdOut (headS s.data.toList) e ∧ Chg [] w w' := by
  rw [headS_R]
  have hsz : s.data.toList.length = s.size := rfl
  obtain ⟨ws, hws⟩ : ∃ l, parts 32 s.data.toList = l := ⟨_, rfl⟩
  have hne : ws ≠ [] := by rw [← hws]; exact parts_ne _ _
  have hlen : ∀ p ∈ ws, p.length ≤ 1000000 := fun p hp => by
    have := parts_len (c := 32) (s := s.data.toList) (p := p) (by rw [hws]; exact hp)
    omega
  have hwl : ws.length ≤ 1000001 := by
    have := parts_count (c := 32) s.data.toList
    rw [hws, hsz] at this
    omega
  obtain ⟨b, hb⟩ : ∃ b, w.heap.size = b := ⟨_, rfl⟩
  obtain ⟨W1, hW1⟩ : ∃ W1, w.alloc (.cells #[.int .i64 0, .int .i64 0, .int .i64 0, .string ⟨#[]⟩, .slice none 0 0] 32) = W1 := ⟨_, rfl⟩
  have hX : W1.heap[b]? = some (.cells (scv Sc.zero (.slice none 0 0)) 32 (0, 0)) := by rw [← hW1, ← hb]; exact has_alloc_new _ _
  have hC1 : Chg [] w W1 := by rw [← hW1]; exact (Chg.refl _ _).alloc _
  have c1 := ref_split s 32 hs W1
  rw [hws] at c1
  have HX := Lib.hid hX; have HC1 := Lib.hid hC1; have HG := Lib.hid (hg.chg hC1); have HW1 := Lib.hid hW1; have Hb := Lib.hid hb; have C1 := Lib.hid c1
  have HWS := Lib.hid hws; have HLen := Lib.hid hlen
  clear hX hC1 hg hW1 hb c1 hws hlen hsz hne
  go_enter Tryd.func28, Tryd.ntmps28
  go_upto_region 1 with fail
  try rw [show (w.alloc (.cells #[.int .i64 0, .int .i64 0, .int .i64 0, .string ByteArray.empty, .slice none 0 0] 32)) = W1 from HW1.out]
  try rw [HW1.out]
  try rw [Hb.out]
  go_wp2_with fail
  refine C1.out.mono ?_
  rintro e w1 ⟨⟨bw, wcap, rfl, hRS⟩, hC⟩
  have HRS := Lib.hid hRS; have HC := Lib.hid (HC1.out.trans hC); have HX1 := Lib.hid (hC.has HX.out nmN); have HG1 := Lib.hid (HG.out.chg hC)
  clear hRS hC
  by_cases hl5 : ws.length = 5
  · obtain ⟨v0, v1, v2, v3, v4, rfl⟩ : ∃ v0 v1 v2 v3 v4, ws = [v0, v1, v2, v3, v4] := by
      match ws, hl5 with
      | [a, b, c, d, e], _ => exact ⟨a, b, c, d, e, rfl⟩
    have q0 : w1.cell? ⟨bw, 0, none⟩ = some (.string ⟨v0.toArray⟩) := HRS.out.2 0 v0 rfl
    have q1 : w1.cell? ⟨bw, 1, none⟩ = some (.string ⟨v1.toArray⟩) := by have := HRS.out.2 1 v1 rfl; simpa using this
    have q2 : w1.cell? ⟨bw, 2, none⟩ = some (.string ⟨v2.toArray⟩) := by have := HRS.out.2 2 v2 rfl; simpa using this
    have q3 : w1.cell? ⟨bw, 3, none⟩ = some (.string ⟨v3.toArray⟩) := by have := HRS.out.2 3 v3 rfl; simpa using this
    have q4 : w1.cell? ⟨bw, 4, none⟩ = some (.string ⟨v4.toArray⟩) := by have := HRS.out.2 4 v4 rfl; simpa using this
    by_cases h0 : v0 = benchW
    · have HR := Lib.hid (show headR s.data.toList = (numS v1).bind fun n => (numS v2).bind fun f => (numS v3).bind fun o => (txtS v4).bind fun d => if 0 ≤ o ∧ o ≤ 1023 ∧ d.length ≤ 60 then some ⟨n, f, o, d, []⟩ else none by
        unfold headR; rw [HWS.out]; simp only; rw [if_pos h0])
      have f1 : (v0 == [98, 101, 110, 99, 104]) = true := by rw [h0]; decide
      have f1b : (v0 != [98, 101, 110, 99, 104]) = false := by rw [h0]; decide
      have c2 := Lib.hid (ref_number ⟨v1.toArray⟩ (HLen.out v1 (by simp)))
      have c3 := Lib.hid (ref_number ⟨v2.toArray⟩ (HLen.out v2 (by simp)))
      have c4 := Lib.hid (ref_number ⟨v3.toArray⟩ (HLen.out v3 (by simp)))
      have c5 := Lib.hid (ref_text ⟨v4.toArray⟩ (HLen.out v4 (by simp)))
      clear h0 hl5
      go_wp2_with fail
      refine (c2.out _ HG1.out).mono ?_
      rintro e w2 ⟨hN, hC2⟩
      obtain ⟨n1, b1, rfl, hn1⟩ := num_two hN
      have HN1 := Lib.hid (show numS v1 = if b1 = true then some n1 else none from hn1); have HC2 := Lib.hid hC2
      replace q2 := hC2.cell q2 nmN; replace q3 := hC2.cell q3 nmN; replace q4 := hC2.cell q4 nmN
      clear hN hn1 hC2 q0 q1
      go_wp2_with fail
      refine (c3.out _ (HG1.out.chg HC2.out)).mono ?_
      rintro e w3 ⟨hN, hC3⟩
      obtain ⟨n2, b2, rfl, hn2⟩ := num_two hN
      have HN2 := Lib.hid (show numS v2 = if b2 = true then some n2 else none from hn2); have HC3 := Lib.hid (HC2.out.trans hC3)
      replace q3 := hC3.cell q3 nmN; replace q4 := hC3.cell q4 nmN
      clear hN hn2 hC3 q2
      go_wp2_with fail
      refine (c4.out _ (HG1.out.chg HC3.out)).mono ?_
      rintro e w4 ⟨hN, hC4⟩
      obtain ⟨n3, b3, rfl, hn3⟩ := num_two hN
      have HN3 := Lib.hid (show numS v3 = if b3 = true then some n3 else none from hn3); have HC4 := Lib.hid (HC3.out.trans hC4)
      replace q4 := hC4.cell q4 nmN
      clear hN hn3 hC4 q3
      go_wp2_with fail
      refine (c5.out _).mono ?_
      rintro e w5 ⟨hN, hC5⟩
      obtain ⟨d, b4, rfl, hn4⟩ := txt_two hN
      have HN4 := Lib.hid (show txtS v4 = if b4 = true then some d else none from hn4); have HC5 := Lib.hid (HC4.out.trans hC5)
      clear hN hn4 hC5 q4
      have HX5 := Lib.hid (HC5.out.has HX1.out nmN)
      obtain ⟨x0, x1, x2, x3, x4⟩ := sc_all HX5.out
      have z0 := sc_fz HX5.out 0; have z1 := sc_fz HX5.out 1; have z2 := sc_fz HX5.out 2; have z3 := sc_fz HX5.out 3; have z4 := sc_fz HX5.out 4
      have HCC := Lib.hid (HC.out.trans HC5.out)
      obtain ⟨W6, hW6⟩ : ∃ W6, put5 w5 b ⟨n1, n2, n3, d, []⟩ (.slice none 0 0) = W6 := ⟨_, rfl⟩
      have hB6 : W6.heap[b]? = some (.cells (scv ⟨n1, n2, n3, d, []⟩ (.slice none 0 0)) 32 (0, 0)) := by rw [← hW6]; exact put5_has HX5.out _ _
      have HCF := Lib.hid (show Chg [] w W6 by rw [← hW6]; exact HCC.out.put5 (Or.inr (Nat.le_of_eq Hb.out)) _ _)
      have HG6 := Lib.hid (sc_all hB6)
      unfold put5 at hW6
      have HW6 := Lib.hid hW6
      clear hW6 hB6
      cases b1 with
      | false =>
        have HZ := Lib.hid (show headR s.data.toList = none by rw [HR.out, HN1.out]; rfl)
        go_wp2_with fail
        rw [HW6.out]
        obtain ⟨k0, k1, k2, k3, k4⟩ := HG6.out
        exact bodyPost_ret (v := .tuple #[.agg (scv ⟨n1, n2, n3, d, []⟩ (.slice none 0 0)), .bool false]) (by simp [results, Tryd.results28, go_sem, scv, k0, k1, k2, k3, k4]) rfl ⟨by rw [HZ.out]; exact ⟨_, rfl⟩, HCF.out⟩
      | true =>
        cases b2 with
        | false =>
          have HZ := Lib.hid (show headR s.data.toList = none by rw [HR.out, HN1.out, HN2.out]; rfl)
          go_wp2_with fail
          rw [HW6.out]
          obtain ⟨k0, k1, k2, k3, k4⟩ := HG6.out
          exact bodyPost_ret (v := .tuple #[.agg (scv ⟨n1, n2, n3, d, []⟩ (.slice none 0 0)), .bool false]) (by simp [results, Tryd.results28, go_sem, scv, k0, k1, k2, k3, k4]) rfl ⟨by rw [HZ.out]; exact ⟨_, rfl⟩, HCF.out⟩
        | true =>
          cases b3 with
          | false =>
            have HZ := Lib.hid (show headR s.data.toList = none by rw [HR.out, HN1.out, HN2.out, HN3.out]; rfl)
            go_wp2_with fail
            rw [HW6.out]
            obtain ⟨k0, k1, k2, k3, k4⟩ := HG6.out
            exact bodyPost_ret (v := .tuple #[.agg (scv ⟨n1, n2, n3, d, []⟩ (.slice none 0 0)), .bool false]) (by simp [results, Tryd.results28, go_sem, scv, k0, k1, k2, k3, k4]) rfl ⟨by rw [HZ.out]; exact ⟨_, rfl⟩, HCF.out⟩
          | true =>
            cases b4 with
            | false =>
              have HZ := Lib.hid (show headR s.data.toList = none by rw [HR.out, HN1.out, HN2.out, HN3.out, HN4.out]; rfl)
              go_wp2_with fail
              rw [HW6.out]
              obtain ⟨k0, k1, k2, k3, k4⟩ := HG6.out
              exact bodyPost_ret (v := .tuple #[.agg (scv ⟨n1, n2, n3, d, []⟩ (.slice none 0 0)), .bool false]) (by simp [results, Tryd.results28, go_sem, scv, k0, k1, k2, k3, k4]) rfl ⟨by rw [HZ.out]; exact ⟨_, rfl⟩, HCF.out⟩
            | true =>
              have HZ9 := Lib.hid (show headR s.data.toList = if 0 ≤ n3 ∧ n3 ≤ 1023 ∧ d.length ≤ 60 then some ⟨n1, n2, n3, d, []⟩ else none by rw [HR.out, HN1.out, HN2.out, HN3.out, HN4.out]; rfl)
              by_cases p1 : 0 ≤ n3
              · have g1 : decide (0 ≤ n3) = true := decide_eq_true p1
                by_cases p2 : n3 ≤ 1023
                · have g2 : decide (n3 ≤ 1023) = true := decide_eq_true p2
                  by_cases p3 : d.length ≤ 60
                  · have g3 : decide ((d.length : Int) ≤ 60) = true := decide_eq_true (by omega)
                    have HZ := Lib.hid (show headR s.data.toList = some ⟨n1, n2, n3, d, []⟩ by rw [HZ9.out, if_pos ⟨p1, p2, p3⟩])
                    go_wp2_with fail
                    rw [HW6.out]
                    obtain ⟨k0, k1, k2, k3, k4⟩ := HG6.out
                    exact bodyPost_ret (v := .tuple #[.agg (scv ⟨n1, n2, n3, d, []⟩ (.slice none 0 0)), .bool true]) (by simp [results, Tryd.results28, go_sem, scv, k0, k1, k2, k3, k4]) rfl ⟨by rw [HZ.out]; exact rfl, HCF.out⟩
                  · have g3 : decide ((d.length : Int) ≤ 60) = false := decide_eq_false (by omega)
                    have HZ := Lib.hid (show headR s.data.toList = none by rw [HZ9.out, if_neg (by omega)])
                    go_wp2_with fail
                    rw [HW6.out]
                    obtain ⟨k0, k1, k2, k3, k4⟩ := HG6.out
                    exact bodyPost_ret (v := .tuple #[.agg (scv ⟨n1, n2, n3, d, []⟩ (.slice none 0 0)), .bool false]) (by simp [results, Tryd.results28, go_sem, scv, k0, k1, k2, k3, k4]) rfl ⟨by rw [HZ.out]; exact ⟨_, rfl⟩, HCF.out⟩
                · have g2 : decide (n3 ≤ 1023) = false := decide_eq_false p2
                  have HZ := Lib.hid (show headR s.data.toList = none by rw [HZ9.out, if_neg (by omega)])
                  go_wp2_with fail
                  rw [HW6.out]
                  obtain ⟨k0, k1, k2, k3, k4⟩ := HG6.out
                  exact bodyPost_ret (v := .tuple #[.agg (scv ⟨n1, n2, n3, d, []⟩ (.slice none 0 0)), .bool false]) (by simp [results, Tryd.results28, go_sem, scv, k0, k1, k2, k3, k4]) rfl ⟨by rw [HZ.out]; exact ⟨_, rfl⟩, HCF.out⟩
              · have g1 : decide (0 ≤ n3) = false := decide_eq_false p1
                have HZ := Lib.hid (show headR s.data.toList = none by rw [HZ9.out, if_neg (by omega)])
                go_wp2_with fail
                rw [HW6.out]
                obtain ⟨k0, k1, k2, k3, k4⟩ := HG6.out
                exact bodyPost_ret (v := .tuple #[.agg (scv ⟨n1, n2, n3, d, []⟩ (.slice none 0 0)), .bool false]) (by simp [results, Tryd.results28, go_sem, scv, k0, k1, k2, k3, k4]) rfl ⟨by rw [HZ.out]; exact ⟨_, rfl⟩, HCF.out⟩
    · have HZ := Lib.hid (show headR s.data.toList = none by unfold headR; rw [HWS.out]; simp only; rw [if_neg h0])
      have f1 : (v0 == [98, 101, 110, 99, 104]) = false := by simpa [benchW] using h0
      have f1b : (v0 != [98, 101, 110, 99, 104]) = true := by simpa [benchW] using h0
      clear h0 hl5
      obtain ⟨x0, x1, x2, x3, x4⟩ := sc_all HX1.out
      have z0 := sc_fz HX1.out 0; have z1 := sc_fz HX1.out 1; have z2 := sc_fz HX1.out 2; have z3 := sc_fz HX1.out 3; have z4 := sc_fz HX1.out 4
      go_wp2_with fail
      obtain ⟨W6, hW6⟩ : ∃ W6, ((((w1.setCell ⟨b, 0, none⟩ (.int .i64 0)).setCell ⟨b, 1, none⟩ (.int .i64 0)).setCell ⟨b, 2, none⟩ (.int .i64 0)).setCell ⟨b, 3, none⟩ (.string ⟨#[]⟩)).setCell ⟨b, 4, none⟩ (.slice none 0 0) = W6 := ⟨_, rfl⟩
      have hB6 : W6.heap[b]? = some (.cells (scv Sc.zero (.slice none 0 0)) 32 (0, 0)) := by rw [← hW6]; exact put5_has HX1.out Sc.zero (.slice none 0 0)
      have HCF := Lib.hid (show Chg [] w W6 by rw [← hW6]; exact HC.out.put5 (Or.inr (Nat.le_of_eq Hb.out)) Sc.zero (.slice none 0 0))
      obtain ⟨k0, k1, k2, k3, k4⟩ : W6.cell? ⟨b, 0, none⟩ = some (.int .i64 0) ∧ W6.cell? ⟨b, 1, none⟩ = some (.int .i64 0) ∧ W6.cell? ⟨b, 2, none⟩ = some (.int .i64 0) ∧ W6.cell? ⟨b, 3, none⟩ = some (.string ⟨#[]⟩) ∧ W6.cell? ⟨b, 4, none⟩ = some (.slice none 0 0) := sc_all hB6
      rw [hW6]
      clear hW6 hB6
      exact bodyPost_ret (v := .tuple #[.agg (scv Sc.zero (.slice none 0 0)), .bool false]) (by simp [results, Tryd.results28, go_sem, scv, Sc.zero, k0, k1, k2, k3, k4]) rfl ⟨by rw [HZ.out]; exact ⟨Sc.zero, rfl⟩, HCF.out⟩
  · have HZ := Lib.hid (show headR s.data.toList = none by
      unfold headR
      rw [HWS.out]
      match ws, hl5 with
      | [], _ => rfl
      | [_], _ => rfl
      | [_, _], _ => rfl
      | [_, _, _], _ => rfl
      | [_, _, _, _], _ => rfl
      | [_, _, _, _, _], h => exact absurd rfl h
      | _ :: _ :: _ :: _ :: _ :: _ :: _, _ => rfl)
    have f0 : ((ws.length : Int) != 5) = true := by rw [bne_iff_ne]; omega
    clear hl5
    obtain ⟨x0, x1, x2, x3, x4⟩ := sc_all HX1.out
    have z0 := sc_fz HX1.out 0; have z1 := sc_fz HX1.out 1; have z2 := sc_fz HX1.out 2; have z3 := sc_fz HX1.out 3; have z4 := sc_fz HX1.out 4
    go_wp2_with fail
    obtain ⟨W6, hW6⟩ : ∃ W6, ((((w1.setCell ⟨b, 0, none⟩ (.int .i64 0)).setCell ⟨b, 1, none⟩ (.int .i64 0)).setCell ⟨b, 2, none⟩ (.int .i64 0)).setCell ⟨b, 3, none⟩ (.string ⟨#[]⟩)).setCell ⟨b, 4, none⟩ (.slice none 0 0) = W6 := ⟨_, rfl⟩
    have hB6 : W6.heap[b]? = some (.cells (scv Sc.zero (.slice none 0 0)) 32 (0, 0)) := by rw [← hW6]; exact put5_has HX1.out Sc.zero (.slice none 0 0)
    have HCF := Lib.hid (show Chg [] w W6 by rw [← hW6]; exact HC.out.put5 (Or.inr (Nat.le_of_eq Hb.out)) Sc.zero (.slice none 0 0))
    obtain ⟨k0, k1, k2, k3, k4⟩ : W6.cell? ⟨b, 0, none⟩ = some (.int .i64 0) ∧ W6.cell? ⟨b, 1, none⟩ = some (.int .i64 0) ∧ W6.cell? ⟨b, 2, none⟩ = some (.int .i64 0) ∧ W6.cell? ⟨b, 3, none⟩ = some (.string ⟨#[]⟩) ∧ W6.cell? ⟨b, 4, none⟩ = some (.slice none 0 0) := sc_all hB6
    rw [hW6]
    clear hW6 hB6
    exact bodyPost_ret (v := .tuple #[.agg (scv Sc.zero (.slice none 0 0)), .bool false]) (by simp [results, Tryd.results28, go_sem, scv, Sc.zero, k0, k1, k2, k3, k4]) rfl ⟨by rw [HZ.out]; exact ⟨Sc.zero, rfl⟩, HCF.out⟩

end Go.Proofs.YtkcfbacapaonaaaDoor
